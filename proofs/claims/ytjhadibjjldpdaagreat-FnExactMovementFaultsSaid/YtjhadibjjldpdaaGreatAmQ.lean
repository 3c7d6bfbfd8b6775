/- An abstract machine, Q: own memory frozen: from here on seen as data. No program. -/
import Derived.Test.YtjhadibjjldpdaaGreatAmP
namespace Go.Proofs.YtjhadibjjldpdaaGreat
open Go.RowKit
set_option linter.unusedVariables false
set_option maxRecDepth 100000

mutual
/-- handles to the object at k, seen as data from here on -/
inductive FzR (k : Nat) (X : Option (List (List DV))) (D : Option (List DV)) : AV → AV → Prop
  | d (x : DV) : FzR k X D (.d x) (.d x)
  | own {es : List (List DV)} {n : Nat} (hX : X = some es) (hn : n = es.length) : FzR k X D (.own k 0 n) (.d (.sl es))
  | ptr {ds out : List DV} {j : Nat} (hD : D = some ds) (hj : Drp j ds out) : FzR k X D (.ptr k 0 1 0 j) (.ref out)
  | own' {k' f n : Nat} : FzR k X D (.own k' f n) (.own k' f n)
  | ptr' {k' f n i j : Nat} : FzR k X D (.ptr k' f n i j) (.ptr k' f n i j)
  | ref (cs : List DV) : FzR k X D (.ref cs) (.ref cs)
  | agg {cs ds : List AV} (h : FzRL k X D cs ds) : FzR k X D (.agg cs) (.agg ds)
  | tup {cs ds : List AV} (h : FzRL k X D cs ds) : FzR k X D (.tup cs) (.tup ds)
  | fn {g : FuncId} {cs ds : List AV} (h : FzRL k X D cs ds) : FzR k X D (.fn g cs) (.fn g ds)
  | dead (a : AV) : FzR k X D a .dead
inductive FzRL (k : Nat) (X : Option (List (List DV))) (D : Option (List DV)) : List AV → List AV → Prop
  | nil : FzRL k X D [] []
  | cons {c d : AV} {cs ds : List AV} (h : FzR k X D c d) (q : FzRL k X D cs ds) : FzRL k X D (c :: cs) (d :: ds)
end
theorem FzRL.len_ {k : Nat} {X : Option (List (List DV))} {D : Option (List DV)} : ∀ {cs ds : List AV}, FzRL k X D cs ds → cs.length = ds.length
  | _, _, .nil => rfl
  | _, _, .cons _ q => by simp [FzRL.len_ q]
theorem FzRL.get_ {k : Nat} {X : Option (List (List DV))} {D : Option (List DV)} : ∀ {cs ds : List AV}, FzRL k X D cs ds → ∀ (i : Nat) c d, cs[i]? = some c → ds[i]? = some d → FzR k X D c d
  | _, _, .nil, i, c, d, h, _ => by simp at h
  | _, _, .cons h q, 0, c, d, h1, h2 => by simp at h1 h2; subst h1 h2; exact h
  | _, _, .cons h q, i + 1, c, d, h1, h2 => by simp at h1 h2; exact FzRL.get_ q i c d h1 h2
section
variable {P : Program} {L N : Nat} {E : Env} {t : Nat → AV} {h h' : Heap} {k : Nat} {X : Option (List (List DV))} {D : Option (List DV)}

/-- the memory behind -/
structure FzH (k : Nat) (X : Option (List (List DV))) (D : Option (List DV)) (h h' : Heap) : Prop where
  at_ : ∃ o, h k = .live [o] ∧ (∀ es, X = some es → o.cs = .data es) ∧ ∀ ds, D = some ds → o.cs = .av [ds.map .d]
  dead : h' k = .dead
  oth : ∀ p, p ≠ k → h' p = h p ∨ ∃ ty sz cs ds, h p = .live [⟨ty, sz, .av [cs]⟩] ∧ h' p = .live [⟨ty, sz, .av [ds]⟩] ∧ FzRL k X D cs ds
theorem fz_evo {F : Nat → Prop} {μ : Places} {w : World} (Z : FzH k X D h h') : Evo w F μ h w (fun b => F b ∨ μ k 0 = some b) μ h' := by
  refine ⟨fun _ _ => rfl, fun b hb => .inl hb, fun p hp => ?_, fun p f o' hp ho' => ?_⟩
  · by_cases e : p = k
    · subst e; rw [Z.dead]; simp
    · rcases Z.oth p e with e1 | ⟨ty, sz, cs, ds, e1, e2, _⟩
      · rwa [e1]
      · rw [e2]; simp
  · by_cases e : p = k
    · subst e; simp [lv, Z.dead] at ho'
    · rcases Z.oth p e with e1 | ⟨ty, sz, cs, ds, e1, e2, _⟩
      · have : lv h p f = some o' := by unfold lv at ho' ⊢; rwa [← e1]
        exact ⟨o', this, .inr ⟨rfl, rfl, rfl, fun b cur _ hc => ⟨cur, hc, rfl⟩⟩⟩
      · unfold lv at ho' ⊢
        rw [e2] at ho'
        rw [e1]
        cases f with
        | zero =>
          simp only [List.getElem?_cons_zero, Option.some.injEq] at ho'
          subst ho'
          exact ⟨_, rfl, .inr ⟨rfl, rfl, rfl, fun b cur _ hc => ⟨cur, hc, rfl⟩⟩⟩
        | succ f => simp at ho'
theorem fz_rep {F : Nat → Prop} {μ : Places} {w : World} (H : HInv E F μ h w) (Z : FzH k X D h h') {v : Value} {a : AV} (r : ARep w F μ h v a) : ∀ {a' : AV}, FzR k X D a a' → ARep w (fun b => F b ∨ μ k 0 = some b) μ h' v a' := by
  have V := fz_evo (F := F) (μ := μ) (w := w) Z
  obtain ⟨o, hk, hX0, hD0⟩ := Z.at_
  have hlo : lv h k 0 = some o := by unfold lv; rw [hk]; rfl
  induction r with
  | d v x hd => intro a' z; cases z with | d => exact (ARep.d v x hd).evo V | dead => exact .dead _
  | agg vs cs hs hr ih =>
    intro a' z
    cases z with
    | agg q =>
      refine .agg vs _ (hs.trans q.len_) fun i v d hv hd => ?_
      have hlt : i < cs.length := by have := (List.getElem?_eq_some_iff.1 hd).1; rw [q.len_]; exact this
      exact ih i v _ hv (List.getElem?_eq_getElem hlt) (q.get_ i _ d (List.getElem?_eq_getElem hlt) hd)
    | dead => exact .dead _
  | tup vs cs hs hr ih =>
    intro a' z
    cases z with
    | tup q =>
      refine .tup vs _ (hs.trans q.len_) fun i v d hv hd => ?_
      have hlt : i < cs.length := by have := (List.getElem?_eq_some_iff.1 hd).1; rw [q.len_]; exact this
      exact ih i v _ hv (List.getElem?_eq_getElem hlt) (q.get_ i _ d (List.getElem?_eq_getElem hlt) hd)
    | dead => exact .dead _
  | ref b off cs g hF hg hr => intro a' z; cases z with | ref => exact (ARep.ref b off cs g hF hg hr).evo V | dead => exact .dead _
  | ptr v k' f n i j h1 hb hv =>
    intro a' z
    cases z with
    | ptr' => exact (ARep.ptr v k' f n i j h1 hb hv).evo V
    | dead => exact .dead _
    | ptr hD hj =>
      rename_i ds out
      have hc := hD0 ds hD
      obtain ⟨b, cur, hm, hw, hob⟩ : ∃ b cur, μ k 0 = some b ∧ w.heap[b]? = some (.cells cur o.ty (0, 0)) ∧ ∀ (q : Nat) (x : DV), ds[q]? = some x → ∃ u, cur[q]? = some u ∧ ARep w F μ h u (.d x) := by
        rcases H.ob k 0 o hlo with ⟨_, q⟩ | ⟨b, cur, q1, q2, q3⟩
        · rw [hc] at q; simp [Cells.len] at q
        · refine ⟨b, cur, q1, q2, fun q x hx => ?_⟩
          obtain ⟨u, hu, hr⟩ := (q3 0 (ds.map .d) (by rw [hc]; rfl)).2 q (.d x) (map_at hx)
          exact ⟨u, by simpa using hu, hr⟩
      obtain ⟨b', hm', rfl⟩ := (hv o hlo).2 (by rw [hc]; rfl)
      rw [hm] at hm'
      injection hm' with hm'
      subst hm'
      obtain ⟨rfl, hjl⟩ := hj.spec
      have hat : ∀ (q : Nat) x, (ds.drop j)[q]? = some x → ∃ u, cur[j + q]? = some u ∧ ARep w F μ h u (.d x) := fun q x hx => hob (j + q) x (by rwa [List.getElem?_drop] at hx)
      refine .ref b _ _ (fun q => cur.getD (j + q) undef) (.inr hm) (fun q x hx => ?_) (fun q x hx => ?_)
      · obtain ⟨u, hu, _⟩ := hat q x hx
        rw [cell_of_row w b _ cur o.ty (0, 0) hw]
        simp [hu]
      · obtain ⟨u, hu, hr⟩ := hat q x hx
        have e1 : cur.getD (j + q) undef = u := by simp [hu]
        rw [e1]
        cases hr with | d _ _ hd => exact hd.mono (fun _ _ => rfl) (fun _ => .inl)
  | own v k' f n h1 hb hv =>
    intro a' z
    cases z with
    | own' => exact (ARep.own v k' f n h1 hb hv).evo V
    | dead => exact .dead _
    | own hX hn =>
      rename_i es
      have hc := hX0 es hX
      have hlen : o.cs.len = es.length := by rw [hc]; rfl
      rcases (hv o hlo).2 (by rw [hlen, hn]) with ⟨q1, q2, q3⟩ | ⟨b, c, cur, q1, q2, q3, q4, q5, q6⟩
      · subst q3
        have : es = [] := List.eq_nil_of_length_eq_zero (by omega)
        subst this
        exact .d _ _ .nil
      · subst q2
        rcases H.ob k 0 o hlo with ⟨g1, _⟩ | ⟨b', cur', g1, g2, g3⟩
        · rw [q1] at g1; cases g1
        · rw [q1] at g1
          injection g1 with g1
          subst g1
          rw [q3] at g2
          injection g2 with g2
          injection g2 with g2
          subst g2
          have cellAt : ∀ (i : Nat) (e : List DV) (j : Nat) (x : DV), es[i]? = some e → e[j]? = some x → ∃ u, cur[i * o.sz + j]? = some u ∧ ARep w F μ h u (.d x) := fun i e j x he hx =>
            (g3 i (e.map .d) (by rw [hc]; simp [Cells.get, he])).2 j (.d x) (by simp [hx])
          refine .d _ _ ?_
          rw [hn]
          refine .sl b 0 c o.sz es (fun i j => cur.getD (i * o.sz + j) undef) (.inr q1) (by omega) q6 (fun i e he => ?_) (fun i e j x he hx => ?_) (fun i e j x he hx => ?_)
          · have := (g3 i (e.map .d) (by rw [hc]; simp [Cells.get, he])).1
            simpa using this
          · obtain ⟨u, hu, _⟩ := cellAt i e j x he hx
            rw [Nat.zero_add, cell_of_row w b _ cur o.ty (0, 0) q3, hu]
            simp [hu]
          · obtain ⟨u, hu, hr⟩ := cellAt i e j x he hx
            have e1 : cur.getD (i * o.sz + j) undef = u := by simp [hu]
            rw [e1]
            cases hr with | d _ _ hd => exact hd.mono (fun _ _ => rfl) (fun _ => .inl)
  | fn g vs cs hs hr ih =>
    intro a' z
    cases z with
    | fn q =>
      refine .fn g vs _ (hs.trans q.len_) fun i v d hv hd => ?_
      have hlt : i < cs.length := by have := (List.getElem?_eq_some_iff.1 hd).1; rw [q.len_]; exact this
      exact ih i v _ hv (List.getElem?_eq_getElem hlt) (q.get_ i _ d (List.getElem?_eq_getElem hlt) hd)
    | dead => exact .dead _
  | dead v => intro a' z; cases z <;> exact .dead _
theorem fz_inv {F : Nat → Prop} {μ : Places} {w : World} (H : HInv E F μ h w) (Z : FzH k X D h h') : HInv E (fun b => F b ∨ μ k 0 = some b) μ h' w := by
  have V := fz_evo (F := F) (μ := μ) (w := w) Z
  obtain ⟨o, hk, hX0, hD0⟩ := Z.at_
  have hlo : lv h k 0 = some o := by unfold lv; rw [hk]; rfl
  have back : ∀ {p f o'}, lv h' p f = some o' → p ≠ k ∧ ∃ o1, lv h p f = some o1 := fun {p f o'} ho' => by
    have hpk : p ≠ k := fun e => by subst e; simp [lv, Z.dead] at ho'
    refine ⟨hpk, ?_⟩
    rcases Z.oth p hpk with e1 | ⟨ty, sz, cs, ds, e1, e2, _⟩
    · exact ⟨o', by unfold lv at ho' ⊢; rwa [← e1]⟩
    · unfold lv at ho' ⊢
      rw [e2] at ho'; rw [e1]
      cases f with
      | zero => exact ⟨_, rfl⟩
      | succ f => simp at ho'
  refine ⟨fun p f o' ho' => ?_, fun p f o1 p' f' o2 b l1 l2 => ?_, fun p f o' b ho' hm hF => ?_, fun p f o' b ho' hm => ?_, fun b hb => ?_, fun b hb => ?_, ?_, H.os, H.tape, H.output, H.size, H.keep⟩
  · obtain ⟨hpk, _⟩ := back ho'
    rcases Z.oth p hpk with e1 | ⟨ty, sz, cs, ds, e1, e2, q⟩
    · have : lv h p f = some o' := by unfold lv at ho' ⊢; rwa [← e1]
      exact (H.ob p f o' this).evo V fun _ _ => rfl
    · unfold lv at ho'
      rw [e2] at ho'
      cases f with
      | succ f => simp at ho'
      | zero =>
        simp only [List.getElem?_cons_zero, Option.some.injEq] at ho'
        subst ho'
        rcases H.ob p 0 ⟨ty, sz, .av [cs]⟩ (by unfold lv; rw [e1]; rfl) with ⟨_, g⟩ | ⟨b, cur, g1, g2, g3⟩
        · simp [Cells.len] at g
        · refine .inr ⟨b, cur, g1, g2, fun i cells hi => ?_⟩
          cases i with
          | succ i => simp [Cells.get] at hi
          | zero =>
            simp only [Cells.get, List.getElem?_cons_zero, Option.some.injEq] at hi
            subst hi
            obtain ⟨g4, g5⟩ := g3 0 cs rfl
            refine ⟨q.len_.symm.trans g4, fun j c hj => ?_⟩
            have hlt : j < cs.length := by have := (List.getElem?_eq_some_iff.1 hj).1; rw [q.len_]; exact this
            obtain ⟨u, hu, hr⟩ := g5 j _ (List.getElem?_eq_getElem hlt)
            exact ⟨u, hu, fz_rep H Z hr (q.get_ j _ c (List.getElem?_eq_getElem hlt) hj)⟩
  · obtain ⟨_, _, x1⟩ := back l1
    obtain ⟨_, _, x2⟩ := back l2
    exact H.inj _ _ _ _ _ _ b x1 x2
  · obtain ⟨hpk, o1, x1⟩ := back ho'
    rcases hF with hF | hF
    · exact H.sep _ _ _ b x1 hm hF
    · exact hpk (H.inj _ _ _ _ _ _ b x1 hlo hm hF).1
  · obtain ⟨_, o1, x1⟩ := back ho'
    exact H.src _ _ _ b x1 hm
  · rcases hb with hb | hb
    · exact H.fz b hb
    · exact H.lt hlo hb
  · rcases hb with hb | hb
    · exact H.fsrc b hb
    · rcases H.src _ _ _ b hlo hb with h1 | h1
      · exact .inr (.inl h1)
      · exact .inr (.inr h1)
  · exact H.ev.trans V
/-- slots behind a freezing -/
inductive FzT (k : Nat) (X : Option (List (List DV))) (D : Option (List DV)) (s : Nat → AV) : (Nat → AV) → Prop
  | nil : FzT k X D s fun _ => .dead
  | upd {t : Nat → AV} {d : Nat} {r r' : AV} (h : s d = r') (hr : FzR k X D r' r) (q : FzT k X D s t) : FzT k X D s (updA t d r)
theorem FzT.spec {s t : Nat → AV} (z : FzT k X D s t) (d : Nat) : FzR k X D (s d) (t d) := by
  induction z with
  | nil => exact .dead _
  | upd h hr q ih =>
    rename_i t d' r r'
    by_cases e : d = d'
    · subst e; rw [updA_same, h]; exact hr
    · rw [updA_ne _ _ e]; exact ih
theorem weak_fz {t' : Nat → AV} (Z : FzH k X D h h') (zt : FzT k X D t t') : Weak L N ⟨t, h⟩ ⟨t', h'⟩ := fun E a w ⟨F, μ, A⟩ =>
  ⟨_, _, fz_inv A.H Z, A.df, A.sz, fun d hd => fz_rep A.H Z (A.tm d hd) (zt.spec d), A.lim⟩
inductive FzL (k : Nat) (X : Option (List (List DV))) (D : Option (List DV)) (h : Heap) : Heap → Prop
  | nil : FzL k X D h (upd h k .dead)
  | box {h' : Heap} {kb : Nat} {ty : TypeId} {sz : Nat} {cs ds : List AV} (hb : h kb = .live [⟨ty, sz, .av [cs]⟩]) (hne : Nat.beq kb k = false) (hr : FzRL k X D cs ds) (q : FzL k X D h h') : FzL k X D h (upd h' kb (.live [⟨ty, sz, .av [ds]⟩]))
theorem FzL.spec (z : FzL k X D h h') : h' k = .dead ∧ ∀ p, p ≠ k → h' p = h p ∨ ∃ ty sz cs ds, h p = .live [⟨ty, sz, .av [cs]⟩] ∧ h' p = .live [⟨ty, sz, .av [ds]⟩] ∧ FzRL k X D cs ds := by
  induction z with
  | nil => exact ⟨upd_same _ _ _, fun p hp => .inl (upd_ne _ _ hp)⟩
  | box hb hne hr q ih =>
    rename_i kb ty sz cs ds
    have hne' : kb ≠ k := fun e => by subst e; simp at hne
    refine ⟨by rw [upd_ne _ _ (Ne.symm hne')]; exact ih.1, fun p hp => ?_⟩
    by_cases e : p = kb
    · subst e; exact .inr ⟨ty, sz, cs, ds, hb, upd_same _ _ _, hr⟩
    · rw [upd_ne _ _ e]; exact ih.2 p hp
theorem fz_rows {ty : TypeId} {sz : Nat} {es : List (List DV)} (hk : h k = .live [⟨ty, sz, .data es⟩]) (z : FzL k (some es) none h h') : FzH k (some es) none h h' :=
  ⟨⟨_, hk, fun es' e => by injection e with e; subst e; rfl, fun ds e => by cases e⟩, z.spec.1, z.spec.2⟩
theorem fz_box {ty : TypeId} {sz : Nat} {cells : List AV} {ds : List DV} (hk : h k = .live [⟨ty, sz, .av [cells]⟩]) (hd : AllD cells ds) (z : FzL k none (some ds) h h') : FzH k none (some ds) h h' :=
  ⟨⟨_, hk, fun es' e => by (cases e), fun ds' e => by injection e with e; subst e; simp only; rw [hd.eq_]⟩, z.spec.1, z.spec.2⟩
end
end Go.Proofs.YtjhadibjjldpdaaGreat
