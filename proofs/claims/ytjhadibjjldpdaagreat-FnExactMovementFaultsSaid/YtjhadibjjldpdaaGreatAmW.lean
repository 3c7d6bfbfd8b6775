/- An abstract machine, W: families, more: frozen, made, handed. No program. -/
import Derived.Test.YtjhadibjjldpdaaGreatAmZ
namespace Go.Proofs.YtjhadibjjldpdaaGreat
open Go.RowKit
set_option linter.unusedVariables false
set_option maxRecDepth 100000
section
variable {E : Env} {F F' : Nat → Prop} {μ μ' : Places} {h h' : Heap} {w : World}
theorem own_drep (H : HInv E F μ h w) {k f n : Nat} {v : Value} {o : AObj} {es : List (List DV)} (r : ARep w F μ h v (.own k f n)) (ho : lv h k f = some o) (hc : o.cs = .data es) (hn : n = es.length) (hF : ∀ b, F b → F' b) (hb : ∀ b, μ k f = some b → F' b) : DRep w F' v (.sl es) := by
  cases r with | own _ _ _ _ h1 hbn hv =>
  have hlen : o.cs.len = es.length := by rw [hc]; rfl
  rcases (hv o ho).2 (by rw [hlen, hn]) with ⟨q1, q2, q3⟩ | ⟨b, c, cur, q1, q2, q3, q4, q5, q6⟩
  · subst q3
    have : es = [] := List.eq_nil_of_length_eq_zero (by omega)
    subst this
    exact .nil
  · subst q2
    rcases H.ob k f o ho with ⟨g1, _⟩ | ⟨b', cur', g1, g2, g3⟩
    · rw [q1] at g1; cases g1
    · rw [q1] at g1
      injection g1 with g1
      subst g1
      rw [q3] at g2
      injection g2 with g2
      injection g2 with g2
      subst g2
      have cellAt : ∀ (i : Nat) (e : List DV) (j : Nat) (x : DV), es[i]? = some e → e[j]? = some x → ∃ u, cur[i * o.sz + j]? = some u ∧ ARep w F μ h u (.d x) := fun i e j x he hx =>
        (g3 i (e.map .d) (by rw [hc]; simp [Cells.get, he])).2 j (.d x) (by simp [hx])
      rw [hn]
      refine .sl b 0 c o.sz es (fun i j => cur.getD (i * o.sz + j) undef) (hb b q1) (by omega) q6 (fun i e he => ?_) (fun i e j x he hx => ?_) (fun i e j x he hx => ?_)
      · have := (g3 i (e.map .d) (by rw [hc]; simp [Cells.get, he])).1
        simpa using this
      · obtain ⟨u, hu, _⟩ := cellAt i e j x he hx
        rw [Nat.zero_add, cell_of_row w b _ cur o.ty (0, 0) q3, hu]
        simp [hu]
      · obtain ⟨u, hu, hr⟩ := cellAt i e j x he hx
        have e1 : cur.getD (i * o.sz + j) undef = u := by simp [hu]
        rw [e1]
        cases hr with | d _ _ hd => exact hd.mono (fun _ _ => rfl) hF
theorem lv2 {k kf : Nat} {o0 : AObj} {s : Slot} {p f : Nat} {o : AObj} (hne : k ≠ kf) (hl : lv (upd (upd h k (.live [o0])) kf s) p f = some o) : (p = kf ∧ lv (upd (upd h k (.live [o0])) kf s) kf f = some o) ∨ (p ≠ kf ∧ p = k ∧ f = 0 ∧ o = o0) ∨ (p ≠ kf ∧ p ≠ k ∧ lv h p f = some o) := by
  by_cases e1 : p = kf
  · subst e1; exact .inl ⟨rfl, hl⟩
  · rw [lv_upd_ne _ _ _ e1] at hl
    by_cases e2 : p = k
    · subst e2
      rw [lv_upd_same] at hl
      cases f with
      | zero => simp at hl; exact .inr (.inl ⟨e1, rfl, rfl, hl.symm⟩)
      | succ f => simp at hl
    · rw [lv_upd_ne _ _ _ e2] at hl; exact .inr (.inr ⟨e1, e2, hl⟩)
theorem born2 {k kf : Nat} {s s' : Slot} (h1 : s ≠ .no) (h2 : s' ≠ .no) : ∀ p, h p ≠ .no → upd (upd h k s) kf s' p ≠ .no := fun p hp => by
  by_cases e1 : p = kf
  · rw [e1, upd_same]; exact h2
  · rw [upd_ne _ _ e1]
    by_cases e2 : p = k
    · rw [e2, upd_same]; exact h1
    · rw [upd_ne _ _ e2]; exact hp
/-- zero cells told by data: nil slices -/
inductive NilC : List AV → List DV → Prop
  | nil : NilC [] []
  | v {x : Value} {cs : List AV} {ds : List DV} (q : NilC cs ds) : NilC (.d (.v x) :: cs) (.v x :: ds)
  | nl {cs : List AV} {ds : List DV} (q : NilC cs ds) : NilC (.d (.v (.slice none 0 0)) :: cs) (.sl [] :: ds)
theorem NilC.spec {cs : List AV} {ds : List DV} (q : NilC cs ds) : cs.length = ds.length ∧ slOf ds = [] ∧ ∀ (j : Nat) x, ds[j]? = some x → (∃ v, x = .v v ∧ cs[j]? = some (.d (.v v))) ∨ (x = .sl [] ∧ cs[j]? = some (.d (.v (.slice none 0 0)))) := by
  induction q with
  | nil => exact ⟨rfl, rfl, fun j x h => by simp at h⟩
  | v q ih =>
    refine ⟨by simp [ih.1], by simpa [slOf] using ih.2.1, fun j x h => ?_⟩
    cases j with
    | zero => simp at h; exact .inl ⟨_, h.symm, rfl⟩
    | succ j => exact ih.2.2 j x (by simpa using h)
  | nl q ih =>
    refine ⟨by simp [ih.1], rfl, fun j x h => ?_⟩
    cases j with
    | zero => simp at h; exact .inr ⟨h.symm, rfl⟩
    | succ j => exact ih.2.2 j x (by simpa using h)
theorem ObjRep.dat {p : Option Nat} {ft : TypeId} {fz : Nat} {es : List (List DV)} {μ2 : Places} {h2 : Heap} (r : ObjRep w F μ h p ⟨ft, fz, .data es⟩) : ObjRep w F μ2 h2 p ⟨ft, fz, .data es⟩ := by
  rcases r with r | ⟨b, cur, h1, h2, h3⟩
  · exact .inl r
  · refine .inr ⟨b, cur, h1, h2, fun i cells hi => ⟨(h3 i cells hi).1, fun j c hj => ?_⟩⟩
    obtain ⟨u, hu, hr⟩ := (h3 i cells hi).2 j c hj
    refine ⟨u, hu, ?_⟩
    simp only [Cells.get] at hi
    obtain ⟨e, he, rfl⟩ := Option.map_eq_some_iff.1 hi
    rw [List.getElem?_map] at hj
    obtain ⟨x, hx, rfl⟩ := Option.map_eq_some_iff.1 hj
    cases hr with | d _ _ hd => exact .d _ _ hd
/-- a callee that was handed one member of a family -/
theorem HInv.joinF {gl : Glob F w} (H : HInv E F μ h w) {F1 : Nat → Prop} {μ1 : Places} {w1 : World} {kf m : Nat} {L0 : List AObj} {ft : TypeId} {fz : Nat} {es es' : List (List DV)} (hk : h kf = .live L0) (hm : L0[m]? = some ⟨ft, fz, .data es⟩)
    (H1 : HInv ⟨w, F, fun p f => if p = 0 ∧ f = 0 then μ kf m else none, lks [.live [⟨ft, fz, .data es⟩]], gl⟩ F1 μ1 (lks [.live [⟨ft, fz, .data es'⟩]]) w1) :
    HInv E F1 (updP μ kf m (μ1 0 0)) (upd h kf (.live (L0.set m ⟨ft, fz, .data es'⟩))) w1 ∧ Evo w F μ h w1 F1 (updP μ kf m (μ1 0 0)) (upd h kf (.live (L0.set m ⟨ft, fz, .data es'⟩))) := by
  have hml : m < L0.length := (List.getElem?_eq_some_iff.1 hm).1
  have hlo : lv h kf m = some ⟨ft, fz, .data es⟩ := (lv_live hk m).trans hm
  have lo1 : lv (lks [.live [⟨ft, fz, .data es'⟩]]) 0 0 = some ⟨ft, fz, .data es'⟩ := rfl
  have own : ∀ {b}, Env.O0 ⟨w, F, fun p f => if p = 0 ∧ f = 0 then μ kf m else none, lks [.live [⟨ft, fz, .data es⟩]], gl⟩ b → μ kf m = some b := fun {b} ⟨p, f, o, hl, hb⟩ => by
    dsimp only at hb
    split at hb
    · exact hb
    · cases hb
  have look : ∀ {p f o}, lv (upd h kf (.live (L0.set m ⟨ft, fz, .data es'⟩))) p f = some o → (p = kf ∧ f = m ∧ o = ⟨ft, fz, .data es'⟩) ∨ (¬ (p = kf ∧ f = m) ∧ lv h p f = some o) := fun {p f o} hl => by
    by_cases e : p = kf
    · subst e
      rw [lv_upd_same] at hl
      by_cases e2 : f = m
      · subst e2
        rw [List.getElem?_set_self hml] at hl
        injection hl with hl
        exact .inl ⟨rfl, rfl, hl.symm⟩
      · rw [List.getElem?_set_ne (Ne.symm e2)] at hl
        exact .inr ⟨fun ⟨_, q⟩ => e2 q, (lv_live hk f).trans hl⟩
    · rw [lv_upd_ne _ _ _ e] at hl; exact .inr ⟨fun ⟨q, _⟩ => e q, hl⟩
  have stay : ∀ {p f o b}, ¬ (p = kf ∧ f = m) → lv h p f = some o → μ p f = some b → w1.heap[b]? = w.heap[b]? := fun hne hl hb =>
    H1.keep _ (H.lt hl hb) fun hO => hne (H.inj _ _ _ _ _ _ _ hl hlo hb (own hO))
  have V : Evo w F μ h w1 F1 (updP μ kf m (μ1 0 0)) (upd h kf (.live (L0.set m ⟨ft, fz, .data es'⟩))) := by
    refine ⟨H1.ev.fr, H1.ev.fs, fun p hp => ?_, fun p f o' hp ho' => ?_⟩
    · by_cases e : p = kf
      · subst e; rw [upd_same]; intro e; cases e
      · rw [upd_ne _ _ e]; exact hp
    · rcases look ho' with ⟨rfl, rfl, rfl⟩ | ⟨hne, hl⟩
      · obtain ⟨o, ho, hx⟩ := H1.ev.live 0 0 _ (fun e => by cases e) lo1
        have : o = ⟨ft, fz, .data es⟩ := by
          have h5 : some (⟨ft, fz, .data es⟩ : AObj) = some o := ho
          injection h5 with h5; exact h5.symm
        subst this
        refine ⟨_, hlo, ?_⟩
        rw [updP_same]
        simpa using hx
      · exact ⟨o', hl, .inr ⟨rfl, rfl, updP_ne _ _ hne, fun b cur hb hc => ⟨cur, by rw [stay hne hl hb]; exact hc, rfl⟩⟩⟩
  refine ⟨⟨fun p f o hl => ?_, fun p f o p2 f2 o2 b l1 l2 m1 m2 => ?_, fun p f o b hl hb => ?_, fun p f o b hl hb => ?_, H1.fz, fun b hb => ?_, H.ev.trans V, H1.os.trans H.os, H1.tape.trans H.tape, H1.output.trans H.output, Nat.le_trans H.size H1.size, fun b hb1 hb2 => ?_⟩, V⟩
  · rcases look hl with ⟨rfl, rfl, rfl⟩ | ⟨hne, hl⟩
    · rw [updP_same]; exact (H1.ob 0 0 _ lo1).dat
    · rw [updP_ne _ _ hne]; exact (H.ob p f o hl).evo V fun b hb => stay hne hl hb
  · have mix : ∀ {q g oo}, ¬ (q = kf ∧ g = m) → lv h q g = some oo → μ q g = some b → μ1 0 0 = some b → False := fun hne hl hb hb1 => by
      rcases H1.src 0 0 _ b lo1 hb1 with hs | hs
      · exact hne (H.inj _ _ _ _ _ _ b hl hlo hb (own hs))
      · have := H.lt hl hb; have hs : w.heap.size ≤ b := hs; omega
    rcases look l1 with ⟨rfl, rfl, _⟩ | ⟨n1, r1⟩ <;> rcases look l2 with ⟨rfl, rfl, _⟩ | ⟨n2, r2⟩
    · exact ⟨rfl, rfl⟩
    · rw [updP_same] at m1; rw [updP_ne _ _ n2] at m2; exact (mix n2 r2 m2 m1).elim
    · rw [updP_same] at m2; rw [updP_ne _ _ n1] at m1; exact (mix n1 r1 m1 m2).elim
    · rw [updP_ne _ _ n1] at m1; rw [updP_ne _ _ n2] at m2; exact H.inj _ _ _ _ _ _ b r1 r2 m1 m2
  · rcases look hl with ⟨rfl, rfl, rfl⟩ | ⟨hne, hl⟩
    · rw [updP_same] at hb; exact H1.sep 0 0 _ b lo1 hb
    · rw [updP_ne _ _ hne] at hb
      intro hF
      rcases H1.fsrc b hF with hs | hs | hs
      · exact H.sep _ _ _ b hl hb hs
      · exact hne (H.inj _ _ _ _ _ _ b hl hlo hb (own hs))
      · have := H.lt hl hb; have hs : w.heap.size ≤ b := hs; omega
  · rcases look hl with ⟨rfl, rfl, rfl⟩ | ⟨hne, hl⟩
    · rw [updP_same] at hb
      rcases H1.src 0 0 _ b lo1 hb with hs | hs
      · exact H.src _ _ _ b hlo (own hs)
      · have := H.size; have hs : w.heap.size ≤ b := hs; exact .inr (by omega)
    · rw [updP_ne _ _ hne] at hb; exact H.src _ _ _ b hl hb
  · rcases H1.fsrc b hb with hs | hs | hs
    · exact H.fsrc b hs
    · exact .inr (H.src _ _ _ b hlo (own hs))
    · have := H.size; have hs : w.heap.size ≤ b := hs; exact .inr (.inr (by omega))
  · have := H.size
    refine (H1.keep b (show b < w.heap.size by omega) fun hO => ?_).trans (H.keep b hb1 hb2)
    rcases H.src _ _ _ b hlo (own hO) with hs | hs
    · exact hb2 hs
    · omega
end
section
variable {P : Program} {T : Tab} {L N : Nat} {ops : Array Oper} {E : Env} {K : List (Nat × Cls) → AS → Prop} {i : Nat} {is : List Nat} {t : Nat → AV} {h h' : Heap} {d : Tmp} {dst : Option Tmp} {op : Op} {ty : TypeId} {pos : String} {aft : Array Edge} {g : Option (Nat × Bool)} {Q : AExit → AS → Prop} {σ : AS} {x y : Operand}
/-- a family is frozen: its rows are data from here on -/
theorem weak_fzfam {α : Type} {k kf : Nat} {bt ft : TypeId} {sz fz : Nat} {c : α → List DV} {xs : List α} (hk : h k = .live [⟨bt, sz, .av (nestL kf c xs)⟩]) (hf : h kf = .live (famL ft fz c xs)) (hone : ∀ a, slCnt (c a) = 1) (hne : Nat.beq k kf = false) :
    Weak L N ⟨t, h⟩ ⟨t, upd (upd h k (.live [⟨bt, sz, .data (xs.map c)⟩])) kf .dead⟩ := by
  rintro E a w ⟨F, μ, A⟩
  have H := A.H
  dsimp only at H
  have hne := Nat.ne_of_beq_eq_false hne
  have look : ∀ {p f o}, lv (upd (upd h k (.live [⟨bt, sz, .data (xs.map c)⟩])) kf .dead) p f = some o → (p ≠ kf ∧ p = k ∧ f = 0 ∧ o = ⟨bt, sz, .data (xs.map c)⟩) ∨ (p ≠ kf ∧ p ≠ k ∧ lv h p f = some o) := fun {p f o} hl => by
    rcases lv2 hne hl with ⟨rfl, hl⟩ | q | q
    · simp [lv, upd_same] at hl
    · exact .inl q
    · exact .inr q
  obtain ⟨H', V⟩ := H.recast (F' := fun b => F b ∨ ∃ f o, lv h kf f = some o ∧ μ kf f = some b) (μ' := μ) (h' := upd (upd h k (.live [⟨bt, sz, .data (xs.map c)⟩])) kf .dead) (fun _ => .inl) (fun b hb => hb.imp id fun ⟨f, o, q1, q2⟩ => ⟨kf, f, o, q1, q2⟩) (born2 (by simp) (by simp))
    (fun p f o' hp ho' => by
      rcases look ho' with ⟨e1, rfl, rfl, rfl⟩ | ⟨e1, e2, hl⟩
      · exact ⟨_, lv_of hk, by simp [Cells.len, nestL_len], rfl, rfl, rfl⟩
      · exact ⟨o', hl, rfl, rfl, rfl, rfl⟩)
    (fun p f => (p, f))
    (fun p f o' b ho' hm => by
      rcases look ho' with ⟨e1, rfl, rfl, rfl⟩ | ⟨e1, e2, hl⟩
      · exact ⟨_, lv_of hk, hm⟩
      · exact ⟨o', hl, hm⟩)
    (fun p f p2 f2 o oo l1 l2 e => ⟨(Prod.ext_iff.1 e).1, (Prod.ext_iff.1 e).2⟩)
    (fun p f o' b ho' hm hF => by
      obtain ⟨o1, ho1, e1⟩ : ∃ o1, lv h p f = some o1 ∧ p ≠ kf := by
        rcases look ho' with ⟨e1, rfl, rfl, rfl⟩ | ⟨e1, e2, hl⟩
        · exact ⟨_, lv_of hk, e1⟩
        · exact ⟨o', hl, e1⟩
      rcases hF with hF | ⟨f2, o2, q1, q2⟩
      · exact H.sep _ _ _ b ho1 hm hF
      · exact e1 (H.inj _ _ _ _ _ _ b ho1 q1 hm q2).1)
    (fun V p f o' ho' => by
      rcases look ho' with ⟨e1, rfl, rfl, rfl⟩ | ⟨e1, e2, hl⟩
      · rcases H.ob p 0 _ (lv_of hk) with ⟨q1, q2⟩ | ⟨b, cur, q1, q2, q3⟩
        · exact .inl ⟨q1, by simpa [Cells.len, nestL_len] using q2⟩
        · refine .inr ⟨b, cur, q1, q2, fun i cells hi => ?_⟩
          simp only [Cells.get, List.getElem?_map] at hi
          obtain ⟨e, he, rfl⟩ := Option.map_eq_some_iff.1 hi
          obtain ⟨a', ha, rfl⟩ := Option.map_eq_some_iff.1 he
          obtain ⟨s1, s2⟩ := q3 i (nestC kf i (c a')) (by simp [Cells.get, nestL_get, ha])
          rw [nestC_len] at s1
          refine ⟨by simpa using s1, fun j cc hj => ?_⟩
          rw [List.getElem?_map] at hj
          obtain ⟨x, hx, rfl⟩ := Option.map_eq_some_iff.1 hj
          obtain ⟨u, hu, hr⟩ := s2 j (nestA kf i x) (by rw [nestC_get, hx]; rfl)
          refine ⟨u, hu, ?_⟩
          cases x with
          | v x => exact ARep.evo V hr
          | sl es => exact .d _ _ (own_drep H hr (lv_fam hf ha) (by rw [slOf_of (hone a') hx]) rfl (fun _ => .inl) fun b hb => .inr ⟨i, _, lv_fam hf ha, hb⟩)
      · exact (H.ob _ _ _ hl).evo V fun _ _ => rfl)
  exact ⟨_, μ, H', A.df, A.sz, fun d hd => (A.tm d hd).evo V, A.lim⟩
/-- nil slices in fresh rows become a family -/
theorem weak_adoptN {α : Type} (kf : Nat) {k n : Nat} {bt : TypeId} {sz : Nat} (ft : TypeId) (fz : Nat) {c : α → List DV} (z : α) {zc : List AV} (hk : h k = .live [⟨bt, sz, .av (List.replicate n zc)⟩]) (hf : h kf = .no) (hz : NilC zc (c z)) :
    Weak L N ⟨t, h⟩ ⟨t, upd (upd h k (.live [⟨bt, sz, .av (nestL kf c (List.replicate n z))⟩])) kf (.live (famL ft fz c (List.replicate n z)))⟩ := by
  rintro E a w ⟨F, μ, A⟩
  have H := A.H
  dsimp only at H
  have hne : k ≠ kf := fun e => by rw [← e, hk] at hf; cases hf
  obtain ⟨z1, z2, z3⟩ := hz.spec
  have look : ∀ {p f o}, lv (upd (upd h k (.live [⟨bt, sz, .av (nestL kf c (List.replicate n z))⟩])) kf (.live (famL ft fz c (List.replicate n z)))) p f = some o → (p = kf ∧ o.cs.len = 0) ∨ (p ≠ kf ∧ p = k ∧ f = 0 ∧ o = ⟨bt, sz, .av (nestL kf c (List.replicate n z))⟩) ∨ (p ≠ kf ∧ p ≠ k ∧ lv h p f = some o) := fun {p f o} hl => by
    rcases lv2 hne hl with ⟨rfl, hl⟩ | q | q
    · rw [lv_upd_same, famL_get] at hl
      obtain ⟨b, hb, rfl⟩ := Option.map_eq_some_iff.1 hl
      have : b = z := (List.mem_replicate.1 (List.mem_of_getElem? hb)).2
      subst this
      exact .inl ⟨rfl, by rw [z2]; rfl⟩
    · exact .inr (.inl q)
    · exact .inr (.inr q)
  let μ' : Places := fun p f => if p = kf then none else μ p f
  have mkf : ∀ f, μ' kf f = none := fun f => if_pos rfl
  have mne : ∀ {p} f, p ≠ kf → μ' p f = μ p f := fun f e => if_neg e
  obtain ⟨H', V⟩ := H.recast (F' := F) (μ' := μ') (h' := upd (upd h k (.live [⟨bt, sz, .av (nestL kf c (List.replicate n z))⟩])) kf (.live (famL ft fz c (List.replicate n z)))) (fun _ hb => hb) (fun _ hb => .inl hb) (born2 (by simp) (by simp))
    (fun p f o' hp ho' => by
      rcases look ho' with ⟨rfl, _⟩ | ⟨e1, rfl, rfl, rfl⟩ | ⟨e1, e2, hl⟩
      · exact absurd hf hp
      · exact ⟨_, lv_of hk, by simp [Cells.len, nestL_len], rfl, rfl, mne _ e1⟩
      · exact ⟨o', hl, rfl, rfl, rfl, mne _ e1⟩)
    (fun p f => (p, f))
    (fun p f o' b ho' hm => by
      rcases look ho' with ⟨rfl, _⟩ | ⟨e1, rfl, rfl, rfl⟩ | ⟨e1, e2, hl⟩
      · rw [mkf] at hm; cases hm
      · rw [mne _ e1] at hm; exact ⟨_, lv_of hk, hm⟩
      · rw [mne _ e1] at hm; exact ⟨o', hl, hm⟩)
    (fun p f p2 f2 o oo l1 l2 e => ⟨(Prod.ext_iff.1 e).1, (Prod.ext_iff.1 e).2⟩)
    (fun p f o' b ho' hm => by
      rcases look ho' with ⟨rfl, _⟩ | ⟨e1, rfl, rfl, rfl⟩ | ⟨e1, e2, hl⟩
      · rw [mkf] at hm; cases hm
      · rw [mne _ e1] at hm; exact H.sep _ _ _ b (lv_of hk) hm
      · rw [mne _ e1] at hm; exact H.sep _ _ _ b hl hm)
    (fun V p f o' ho' => by
      rcases look ho' with ⟨rfl, hz⟩ | ⟨e1, rfl, rfl, rfl⟩ | ⟨e1, e2, hl⟩
      · exact .inl ⟨mkf _, hz⟩
      · rw [mne _ e1]
        rcases H.ob p 0 _ (lv_of hk) with ⟨q1, q2⟩ | ⟨b, cur, q1, q2, q3⟩
        · exact .inl ⟨q1, by simpa [Cells.len, nestL_len] using q2⟩
        · refine .inr ⟨b, cur, q1, q2, fun i cells hi => ?_⟩
          simp only [Cells.get, nestL_get] at hi
          obtain ⟨a', ha, rfl⟩ := Option.map_eq_some_iff.1 hi
          have hil := (List.getElem?_eq_some_iff.1 ha).1
          simp only [List.length_replicate] at hil
          have : a' = z := (List.mem_replicate.1 (List.mem_of_getElem? ha)).2
          subst this
          obtain ⟨s1, s2⟩ := q3 i zc (by simp [Cells.get, List.getElem?_replicate, hil])
          refine ⟨by rw [nestC_len, ← z1]; exact s1, fun j cc hj => ?_⟩
          rw [nestC_get] at hj
          obtain ⟨x, hx, rfl⟩ := Option.map_eq_some_iff.1 hj
          rcases z3 j x hx with ⟨v, rfl, hc⟩ | ⟨rfl, hc⟩
          · obtain ⟨u, hu, hr⟩ := s2 j _ hc
            exact ⟨u, hu, hr.evo V⟩
          · obtain ⟨u, hu, hr⟩ := s2 j _ hc
            refine ⟨u, hu, ?_⟩
            have h6 := rep_v hr
            subst h6
            refine .own _ _ _ _ rfl (by rw [upd_same]; intro e; cases e) fun o ho => ?_
            rcases look ho with ⟨_, hz⟩ | ⟨e1, _⟩ | ⟨e1, _⟩
            · exact ⟨by simp, fun _ => .inl ⟨mkf _, rfl, rfl⟩⟩
            · exact absurd rfl e1
            · exact absurd rfl e1
      · rw [mne _ e1]
        exact (H.ob _ _ _ hl).evo V fun _ _ => rfl)
  exact ⟨F, μ', H', A.df, A.sz, fun d hd => (A.tm d hd).evo V, A.lim⟩
/-- empty own rows get a family -/
theorem weak_nest0 {α : Type} (kf : Nat) {k : Nat} {bt : TypeId} {sz : Nat} (ft : TypeId) (fz : Nat) (c : α → List DV) (hk : h k = .live [⟨bt, sz, .data []⟩]) (hf : h kf = .no) :
    Weak L N ⟨t, h⟩ ⟨t, upd (upd h k (.live [⟨bt, sz, .av (nestL kf c [])⟩])) kf (.live (famL ft fz c []))⟩ := by
  rintro E a w ⟨F, μ, A⟩
  have H := A.H
  dsimp only at H
  have hne : k ≠ kf := fun e => by rw [← e, hk] at hf; cases hf
  have look : ∀ {p f o}, lv (upd (upd h k (.live [⟨bt, sz, .av (nestL kf c [])⟩])) kf (.live (famL ft fz c []))) p f = some o → (p ≠ kf ∧ p = k ∧ f = 0 ∧ o = ⟨bt, sz, .av (nestL kf c [])⟩) ∨ (p ≠ kf ∧ p ≠ k ∧ lv h p f = some o) := fun {p f o} hl => by
    rcases lv2 hne hl with ⟨rfl, hl⟩ | q | q
    · rw [lv_upd_same, famL_get] at hl; simp at hl
    · exact .inl q
    · exact .inr q
  obtain ⟨H', V⟩ := H.recast (F' := F) (μ' := μ) (h' := upd (upd h k (.live [⟨bt, sz, .av (nestL kf c [])⟩])) kf (.live (famL ft fz c []))) (fun _ hb => hb) (fun _ hb => .inl hb) (born2 (by simp) (by simp))
    (fun p f o' hp ho' => by
      rcases look ho' with ⟨e1, rfl, rfl, rfl⟩ | ⟨e1, e2, hl⟩
      · exact ⟨_, lv_of hk, by simp [Cells.len, nestL_len], rfl, rfl, rfl⟩
      · exact ⟨o', hl, rfl, rfl, rfl, rfl⟩)
    (fun p f => (p, f))
    (fun p f o' b ho' hm => by
      rcases look ho' with ⟨e1, rfl, rfl, rfl⟩ | ⟨e1, e2, hl⟩
      · exact ⟨_, lv_of hk, hm⟩
      · exact ⟨o', hl, hm⟩)
    (fun p f p2 f2 o oo l1 l2 e => ⟨(Prod.ext_iff.1 e).1, (Prod.ext_iff.1 e).2⟩)
    (fun p f o' b ho' hm => by
      rcases look ho' with ⟨e1, rfl, rfl, rfl⟩ | ⟨e1, e2, hl⟩
      · exact H.sep _ _ _ b (lv_of hk) hm
      · exact H.sep _ _ _ b hl hm)
    (fun V p f o' ho' => by
      rcases look ho' with ⟨e1, rfl, rfl, rfl⟩ | ⟨e1, e2, hl⟩
      · rcases H.ob p 0 _ (lv_of hk) with ⟨q1, q2⟩ | ⟨b, cur, q1, q2, q3⟩
        · exact .inl ⟨q1, by simp [Cells.len, nestL_len]⟩
        · exact .inr ⟨b, cur, q1, q2, fun i cells hi => by simp [Cells.get, nestL_get] at hi⟩
      · exact (H.ob _ _ _ hl).evo V fun _ _ => rfl)
  exact ⟨F, μ, H', A.df, A.sz, fun d hd => (A.tm d hd).evo V, A.lim⟩
end
end Go.Proofs.YtjhadibjjldpdaaGreat
