/- An abstract machine, L: append, calls, entry and return. No program. -/
import Derived.Test.YtjhadibjjldpdaaGreatAmK
namespace Go.Proofs.YtjhadibjjldpdaaGreat
open Go.RowKit
set_option linter.unusedVariables false
set_option maxRecDepth 100000

mutual
def AV.free : AV → Bool
  | .d _ => true
  | .agg cs => AV.freeL cs
  | .tup cs => AV.freeL cs
  | .ref _ => true
  | .ptr .. => false
  | .own .. => false
  | .fn _ cs => AV.freeL cs
  | .dead => true
def AV.freeL : List AV → Bool
  | [] => true
  | c :: cs => c.free && AV.freeL cs
end
theorem freeL_get : ∀ {cs : List AV}, AV.freeL cs = true → ∀ {i : Nat} {c : AV}, cs[i]? = some c → c.free = true
  | [], _, i, c, hc => by simp at hc
  | x :: cs, h, 0, c, hc => by simp [AV.freeL] at h hc; rw [← hc]; exact h.1
  | x :: cs, h, i + 1, c, hc => by simp [AV.freeL] at h hc; exact freeL_get h.2 hc
theorem ARep.free_ {w : World} {F : Nat → Prop} {μ μ2 : Places} {h h2 : Heap} {v : Value} {a : AV} (r : ARep w F μ h v a) : a.free = true → ARep w F μ2 h2 v a := by
  induction r with
  | d v x hd => intro _; exact .d v x hd
  | agg vs cs hs hr ih => intro hf; exact .agg vs cs hs fun i v c hv hc => ih i v c hv hc (freeL_get (by simpa [AV.free] using hf) hc)
  | tup vs cs hs hr ih => intro hf; exact .tup vs cs hs fun i v c hv hc => ih i v c hv hc (freeL_get (by simpa [AV.free] using hf) hc)
  | ref b off cs g hF hg hr => intro _; exact .ref b off cs g hF hg hr
  | ptr v k f n i j h1 hb hv => intro hf; simp [AV.free] at hf
  | own v k f n h1 hb hv => intro hf; simp [AV.free] at hf
  | fn g vs cs hs hr ih => intro hf; exact .fn g vs cs hs fun i v c hv hc => ih i v c hv hc (freeL_get (by simpa [AV.free] using hf) hc)
  | dead v => intro _; exact .dead v

/-! names normalised -/
mutual
inductive RenR (ι : Nat → Nat) : AV → AV → Prop
  | d (x : DV) : RenR ι (.d x) (.d x)
  | agg {cs ds : List AV} (h : RenRL ι cs ds) : RenR ι (.agg cs) (.agg ds)
  | tup {cs ds : List AV} (h : RenRL ι cs ds) : RenR ι (.tup cs) (.tup ds)
  | ref (cs : List DV) : RenR ι (.ref cs) (.ref cs)
  | ptr (k f n i j k' : Nat) (h : ι k = k') : RenR ι (.ptr k f n i j) (.ptr k' f n i j)
  | own (k f n k' : Nat) (h : ι k = k') : RenR ι (.own k f n) (.own k' f n)
  | fn {g : FuncId} {cs ds : List AV} (h : RenRL ι cs ds) : RenR ι (.fn g cs) (.fn g ds)
  | dead : RenR ι .dead .dead
inductive RenRL (ι : Nat → Nat) : List AV → List AV → Prop
  | nil : RenRL ι [] []
  | cons {c d : AV} {cs ds : List AV} (h : RenR ι c d) (k : RenRL ι cs ds) : RenRL ι (c :: cs) (d :: ds)
end
mutual
theorem RenR.eq_ {ι : Nat → Nat} : ∀ {a b : AV}, RenR ι a b → b = a.ren ι
  | _, _, .d x => rfl
  | _, _, .agg h => by rw [AV.ren, RenRL.eq_ h]
  | _, _, .tup h => by rw [AV.ren, RenRL.eq_ h]
  | _, _, .ref cs => rfl
  | _, _, .ptr k f n i j k' h => by rw [AV.ren, h]
  | _, _, .own k f n k' h => by rw [AV.ren, h]
  | _, _, .fn h => by rw [AV.ren, RenRL.eq_ h]
  | _, _, .dead => rfl
theorem RenRL.eq_ {ι : Nat → Nat} : ∀ {a b : List AV}, RenRL ι a b → b = AV.renL ι a
  | _, _, .nil => rfl
  | _, _, .cons h k => by rw [AV.renL, RenR.eq_ h, RenRL.eq_ k]
end
inductive RenS (ι : Nat → Nat) : Slot → Slot → Prop
  | no : RenS ι .no .no
  | dead : RenS ι .dead .dead
  | data (ty : TypeId) (sz : Nat) (es : List (List DV)) : RenS ι (.live [⟨ty, sz, .data es⟩]) (.live [⟨ty, sz, .data es⟩])
  | box (ty : TypeId) (sz : Nat) {cs ds : List AV} (h : RenRL ι cs ds) : RenS ι (.live [⟨ty, sz, .av [cs]⟩]) (.live [⟨ty, sz, .av [ds]⟩])
  | gen (s : Slot) : RenS ι s (s.ren ι)
theorem RenS.eq_ {ι : Nat → Nat} {a b : Slot} (h : RenS ι a b) : b = a.ren ι := by
  cases h with
  | no => rfl
  | dead => rfl
  | data => rfl
  | box ty sz h => rw [h.eq_]; rfl
  | gen => rfl
/-! families: own slices that lie in the elements of own rows -/
/-- cells of an element whose slices are the members i of the family kf -/
def nestC (kf i : Nat) : List DV → List AV
  | [] => []
  | .v x :: l => .d (.v x) :: nestC kf i l
  | .sl es :: l => .own kf i es.length :: nestC kf i l
def slOf : List DV → List (List DV)
  | [] => []
  | .v _ :: l => slOf l
  | .sl es :: _ => es
def slCnt : List DV → Nat
  | [] => 0
  | .v _ :: l => slCnt l
  | .sl _ :: l => slCnt l + 1
def nestL {α : Type} (kf : Nat) (c : α → List DV) (x : List α) : List (List AV) := x.mapIdx fun i a => nestC kf i (c a)
def famL {α : Type} (ft : TypeId) (fz : Nat) (c : α → List DV) (x : List α) : List AObj := x.map fun a => ⟨ft, fz, .data (slOf (c a))⟩
theorem nestC_ren {ι : Nat → Nat} (kf i : Nat) : ∀ l : List DV, AV.renL ι (nestC kf i l) = nestC (ι kf) i l
  | [] => rfl
  | .v x :: l => by simp [nestC, AV.renL, AV.ren, nestC_ren kf i l]
  | .sl es :: l => by simp [nestC, AV.renL, AV.ren, nestC_ren kf i l]
theorem RenS.nest {ι : Nat → Nat} {α : Type} {ty : TypeId} {sz kf kf' : Nat} {c : α → List DV} {x : List α} (hk : ι kf = kf') : RenS ι (.live [⟨ty, sz, .av (nestL kf c x)⟩]) (.live [⟨ty, sz, .av (nestL kf' c x)⟩]) := by
  have e : (Slot.live [⟨ty, sz, .av (nestL kf' c x)⟩]) = (Slot.live [⟨ty, sz, .av (nestL kf c x)⟩]).ren ι := by
    subst hk
    simp only [Slot.ren, List.map_cons, List.map_nil, AObj.ren, Cells.ren]
    congr 4
    apply List.ext_getElem?
    intro i
    simp only [nestL, List.getElem?_map, List.getElem?_mapIdx]
    cases x[i]? <;> simp [nestC_ren]
  rw [e]; exact .gen _
theorem RenS.fam {ι : Nat → Nat} {α : Type} {ft : TypeId} {fz : Nat} {c : α → List DV} {x : List α} : RenS ι (.live (famL ft fz c x)) (.live (famL ft fz c x)) := by
  have e : (Slot.live (famL ft fz c x)) = (Slot.live (famL ft fz c x)).ren ι := by
    simp [Slot.ren, famL, AObj.ren, Cells.ren]
  have := RenS.gen (ι := ι) (Slot.live (famL ft fz c x))
  rwa [← e] at this
inductive BirR (ι : Nat → Nat) : Nat → List Slot → Heap → Heap → Prop
  | nil (B : Nat) (h : Heap) : BirR ι B [] h h
  | cons {B : Nat} {s s' : Slot} {ss : List Slot} {h h' : Heap} (hs : RenS ι s s') (k : BirR ι (B + 1) ss (upd h B s') h') : BirR ι B (s :: ss) h h'
theorem BirR.eq_ {ι : Nat → Nat} {B : Nat} {ss : List Slot} {h h' : Heap} (b : BirR ι B ss h h') : h' = births h B (ss.map (Slot.ren ι)) := by
  induction b with
  | nil => rfl
  | cons hs k ih => rw [ih, hs.eq_]; rfl
theorem births_old (h : Heap) {B : Nat} (hB : Abv h B) (ss : List Slot) (k : Nat) (hk : h k ≠ .no) : births h B ss k = h k := by
  refine births_lo h ss B k ?_
  rcases Nat.lt_or_ge k B with hlt | hge
  · exact hlt
  · exact absurd (hB k hge) hk

def callB (P : Program) (f : FuncId) : Bool :=
  match P.funcs[f]? with
  | some fn => !(fn.name == "runtime.NumGoroutine") && fn.body.isSome
  | none => false
/-- a contract -/
structure FnC (P : Program) (f : FuncId) (hin : List Slot) (args : List AV) (hout : List Slot) (r : AV) : Prop where
  c : callB P f = true
  g : FnG P f hin args hout r
abbrev FnD (P : Program) (f : FuncId) (args : List AV) (r : AV) : Prop := FnC P f [] args [] r

section
variable {P : Program} {T : Tab} {L N : Nat} {ops : Array Oper} {E : Env} {K : List (Nat × Cls) → AS → Prop} {i : Nat} {is : List Nat} {t : Nat → AV} {h h' : Heap} {d : Tmp} {dst : Option Tmp} {op : Op} {ty : TypeId} {pos : String} {aft : Array Edge} {g : Option (Nat × Bool)}

theorem wr_append (hT : TOk P T) {bt e : TypeId} {s x : Operand} {k f n : Nat} {news : List (List DV)} {l l' : List AObj} {o : AObj} {cc : Cells} {ti ei : TI} (hs : evA N ⟨t, h⟩ s = .own k f n) (hx : evA N ⟨t, h⟩ x = .d (.sl news)) (h1 : T bt = some ti) (h2 : ti.desc = .slice e) (h3 : T e = some ei)
    (hzs : Nat.beq ei.zero.cells.size ei.size = true) (hpos : Nat.blt 0 ei.size = true) (hk : h k = .live l) (hf : l[f]? = some o) (hn : o.cs.len = n) (hty : o.ty = e) (hsz : o.sz = ei.size) (hnl : ∀ x ∈ news, x.length = ei.size) (happ : App o.cs (.data news) cc) (hl' : SetO l f ⟨o.ty, o.sz, cc⟩ l')
    (hby : (n + news.length) * ei.bytes ≤ 140737488355328) (hm : n + news.length ≤ 140737488355328) :
    Heavy1 P N ⟨dst, .call ⟨.builtin .append, #[s, x], #[bt, bt]⟩, ty, pos, aft, g⟩ ⟨t, h⟩ (.own k f (n + news.length)) (upd h k (.live l')) := fun E F μ w ρ H st => by
  have hr := st s (by simp [Op.operands, Call.operands])
  have hr2 := st x (by simp [Op.operands, Call.operands])
  rw [hs] at hr; rw [hx] at hr2
  have hlo : lv h k f = some o := (lv_live hk f).trans hf
  generalize hvs : ρ s = vs at hr
  cases hr with | own _ _ _ _ g1 hb hv =>
  obtain ⟨v', w', q1, F', μ', q2, q3, q4⟩ := append_core (ty := ty) hT h1 h2 h3 hzs hpos H hk hf hn hty hsz ((hv o hlo).2 hn) (reads_sl hr2 hnl) happ hby hm
  rw [hl'.eq_]
  have e1 : (execOp ρ ⟨dst, .call ⟨.builtin .append, #[s, x], #[bt, bt]⟩, ty, pos, aft, g⟩).run P w = .ok (.value v') w' := by
    simp [execOp, resolve, invoke, builtin, hvs, q1]
  rw [e1]
  exact ⟨F', μ', q2, q3, q4⟩
theorem wr_append_own (hT : TOk P T) {bt e : TypeId} {s x : Operand} {k f n k2 f2 m : Nat} {l l' : List AObj} {o o2 : AObj} {cc : Cells} {ti ei : TI} (hs : evA N ⟨t, h⟩ s = .own k f n) (hx : evA N ⟨t, h⟩ x = .own k2 f2 m) (h1 : T bt = some ti) (h2 : ti.desc = .slice e) (h3 : T e = some ei)
    (hzs : Nat.beq ei.zero.cells.size ei.size = true) (hpos : Nat.blt 0 ei.size = true) (hk : h k = .live l) (hf : l[f]? = some o) (hn : o.cs.len = n) (hty : o.ty = e) (hsz : o.sz = ei.size) (ho2 : lv h k2 f2 = some o2) (hm2 : o2.cs.len = m) (hs2 : o2.sz = ei.size) (hok : o2.cs.oks) (happ : App o.cs o2.cs cc) (hl' : SetO l f ⟨o.ty, o.sz, cc⟩ l')
    (hby : (n + m) * ei.bytes ≤ 140737488355328) (hm : n + m ≤ 140737488355328) :
    Heavy1 P N ⟨dst, .call ⟨.builtin .append, #[s, x], #[bt, bt]⟩, ty, pos, aft, g⟩ ⟨t, h⟩ (.own k f (n + m)) (upd h k (.live l')) := fun E F μ w ρ H st => by
  have hr := st s (by simp [Op.operands, Call.operands])
  have hr2 := st x (by simp [Op.operands, Call.operands])
  rw [hs] at hr; rw [hx] at hr2
  have hlo : lv h k f = some o := (lv_live hk f).trans hf
  generalize hvs : ρ s = vs at hr
  cases hr with | own _ _ _ _ g1 hb hv =>
  have hrd := reads_own H hr2 ho2 hm2 hok
  rw [hs2] at hrd
  subst hm2
  obtain ⟨v', w', q1, F', μ', q2, q3, q4⟩ := append_core (ty := ty) hT h1 h2 h3 hzs hpos H hk hf hn hty hsz ((hv o hlo).2 hn) hrd happ hby hm
  rw [hl'.eq_]
  have e1 : (execOp ρ ⟨dst, .call ⟨.builtin .append, #[s, x], #[bt, bt]⟩, ty, pos, aft, g⟩).run P w = .ok (.value v') w' := by
    simp [execOp, resolve, invoke, builtin, hvs, q1]
  rw [e1]
  exact ⟨F', μ', q2, q3, q4⟩
theorem upd_upd (h : Heap) (k : Nat) (s s' : Slot) : upd (upd h k s) k s' = upd h k s' := by
  funext k'
  by_cases e : k' = k
  · subst e; rw [upd_same, upd_same]
  · rw [upd_ne _ _ e, upd_ne _ _ e, upd_ne _ _ e]
theorem st_append_nil (k : Nat) (hT : TOk P T) {bt e : TypeId} {s x : Operand} {news : List (List DV)} {ti ei : TI} (hs : evA N ⟨t, h⟩ s = .d (.v (.slice none 0 0))) (hx : evA N ⟨t, h⟩ x = .d (.sl news)) (h1 : T bt = some ti) (h2 : ti.desc = .slice e) (h3 : T e = some ei)
    (hzs : Nat.beq ei.zero.cells.size ei.size = true) (hpos : Nat.blt 0 ei.size = true) (hk : h k = .no) (hnl : ∀ x ∈ news, x.length = ei.size) (hby : news.length * ei.bytes ≤ 140737488355328) (hm : news.length ≤ 140737488355328) :
    Heavy1 P N ⟨dst, .call ⟨.builtin .append, #[s, x], #[bt, bt]⟩, ty, pos, aft, g⟩ ⟨t, h⟩ (.own k 0 news.length) (upd h k (.live [⟨e, ei.size, .data news⟩])) ∧ ∀ k', h k' ≠ .no → upd h k (.live [⟨e, ei.size, .data news⟩]) k' = h k' := by
  refine ⟨fun E F μ w ρ H st => ?_, ext_upd hk⟩
  have hr := rep_v (by have := st s (by simp [Op.operands, Call.operands]); rw [hs] at this; exact this)
  have hr2 := st x (by simp [Op.operands, Call.operands])
  rw [hx] at hr2
  obtain ⟨H1, V1⟩ := H.adopt k hk ⟨e, ei.size, .data []⟩ rfl
  obtain ⟨v', w', q1, F', μ', q2, q3, q4⟩ := append_core (ty := ty) (n := 0) (f := 0) (v := .slice none 0 0) hT h1 h2 h3 hzs hpos H1 (upd_same h k _) rfl rfl rfl rfl (.inl ⟨updP_same _ _ _ _, rfl, rfl⟩) (reads_sl (hr2.evo V1) hnl) (.data [] news) (by simpa [Cells.len] using hby) (by simpa [Cells.len] using hm)
  rw [upd_upd] at q2 q3 q4
  have e1 : (execOp ρ ⟨dst, .call ⟨.builtin .append, #[s, x], #[bt, bt]⟩, ty, pos, aft, g⟩).run P w = .ok (.value v') w' := by
    simp [execOp, resolve, invoke, builtin, hr, q1]
  rw [e1]
  refine ⟨F', μ', q2, V1.trans ?_, ?_⟩
  · have := q3; simpa using this
  · simpa [Cells.len] using q4

/-! calls -/
theorem call_run {f : FuncId} {x : Operand} {args : Array Operand} {at_ : Array TypeId} {ρ : Operand → Value} {cap : Array Value} {w : World} (hc : callB P f = true) (hx : ρ x = .func (.func f) #[] cap) :
    (execOp ρ ⟨dst, .call ⟨.value x, args, at_⟩, ty, pos, aft, g⟩).run P w = .ok (.enter f (args.map ρ ++ cap)) w := by
  unfold callB at hc
  cases hf : P.funcs[f]? with
  | none => simp [hf] at hc
  | some fn =>
    simp only [hf, Bool.and_eq_true, Bool.not_eq_true'] at hc
    obtain ⟨h1, h2⟩ := hc
    obtain ⟨bd, hbd⟩ := Option.isSome_iff_exists.1 h2
    have h4 : ¬ fn.name = "runtime.NumGoroutine" := by simpa using h1
    simp [execOp, resolve, hx, Deferred.ofValue, invoke, callFunc, hf, h4, hbd]
theorem args_rep {F : Nat → Prop} {μ : Places} {w : World} {x : Operand} {args : Array Operand} {at_ : Array TypeId} {ρ : Operand → Value} {f : FuncId} {caps : List AV} (st : Stand N ⟨dst, .call ⟨.value x, args, at_⟩, ty, pos, aft, g⟩ ⟨t, h⟩ ρ w F μ h) (hx : evA N ⟨t, h⟩ x = .fn f caps) :
    ∃ cap, ρ x = .func (.func f) #[] cap ∧ (args.map ρ ++ cap).size = (evL N ⟨t, h⟩ args.toList ++ caps).length ∧ ∀ (i : Nat) v a, (args.map ρ ++ cap)[i]? = some v → (evL N ⟨t, h⟩ args.toList ++ caps)[i]? = some a → ARep w F μ h v a := by
  have hr := st x (by simp [Op.operands, Call.operands])
  rw [hx] at hr
  generalize hv : ρ x = v at hr
  cases hr with | fn _ vs _ hs hr =>
  refine ⟨vs, rfl, by simp [evL_map, hs], fun i v a h1 h2 => ?_⟩
  rw [evL_map] at h2
  rw [Array.getElem?_append] at h1
  rw [List.getElem?_append] at h2
  simp only [Array.size_map, List.length_map, Array.length_toList] at h1 h2
  by_cases hi : i < args.size
  · rw [if_pos hi] at h1 h2
    rw [Array.getElem?_map] at h1
    rw [List.getElem?_map, Array.getElem?_toList] at h2
    obtain ⟨y, hy, rfl⟩ := Option.map_eq_some_iff.1 h1
    rw [hy] at h2
    simp at h2
    subst h2
    exact st y (by simp only [Op.operands, Call.operands]; exact Array.mem_append.2 (.inr (Array.mem_of_getElem? hy)))
  · rw [if_neg hi] at h1 h2
    exact hr _ _ _ h1 h2
theorem lks_nil : lks [] = fun _ => Slot.no := by funext p; rfl
theorem HInv.start {F : Nat → Prop} {μ : Places} {w : World} {gl : Glob F w} (hF : ∀ b, F b → b < w.heap.size) : HInv ⟨w, F, μ, lks [], gl⟩ F μ (lks []) w := by
  have no : ∀ {k f o}, lv (lks []) k f = some o → False := fun hl => by simp [lv, lks] at hl
  exact ⟨fun k f o hl => (no hl).elim, fun k f o k' f' o' b hl => (no hl).elim, fun k f o b hl => (no hl).elim, fun k f o b hl => (no hl).elim, hF, fun b hb => .inl hb, Evo.refl_, rfl, rfl, rfl, Nat.le_refl _, fun _ _ _ => rfl⟩
/-- a call that gets data alone -/
theorem st_call (B : Nat) {f : FuncId} {x : Operand} {args : Array Operand} {at_ : Array TypeId} {caps as : List AV} {hs : List Slot} {r r' : AV} (hx : evA N ⟨t, h⟩ x = .fn f caps) (ha : evL N ⟨t, h⟩ args.toList ++ caps = as) (hfr : AV.freeL as = true) (hF : FnC P f [] as hs r) (hB : Abv h B)
    (hr : RenR (B + ·) r r') (hb : BirR (B + ·) B hs h h') : Heavy1 P N ⟨dst, .call ⟨.value x, args, at_⟩, ty, pos, aft, g⟩ ⟨t, h⟩ r' h' ∧ ∀ k, h k ≠ .no → h' k = h k := by
  refine ⟨fun E F μ w ρ H st => ?_, fun k hk => by rw [hb.eq_]; exact births_old h hB _ k hk⟩
  obtain ⟨cap, c1, c2, c3⟩ := args_rep st hx
  rw [call_run hF.c c1]
  rw [ha] at c2 c3
  refine (hF.g w F (fun p f => μ (B + p) f) _ H.glob (HInv.start H.fz) c2 fun i v a h1 h2 => (c3 i v a h1 h2).free_ (freeL_get hfr h2)).mono ?_
  rintro e w' ⟨v, F', μ1, rfl, H1, hv⟩
  obtain ⟨μ', J1, J2, J3⟩ := H.join0 hB H1
  refine ⟨v, rfl, F', μ', ?_, ?_, ?_⟩
  · rw [hb.eq_]; exact J1
  · rw [hb.eq_]; exact J2
  · rw [hb.eq_, hr.eq_]; exact hv.ren J3
inductive Vs (h : Heap) : List AV → List AV → Prop
  | nil : Vs h [] []
  | cons {c d : AV} {cs ds : List AV} (hv : View h c d) (k : Vs h cs ds) : Vs h (c :: cs) (d :: ds)
theorem Vs.spec {cs ds : List AV} (v : Vs h cs ds) : cs.length = ds.length ∧ ∀ (i : Nat) c d, cs[i]? = some c → ds[i]? = some d → View h c d := by
  induction v with
  | nil => exact ⟨rfl, fun i c d h => by simp at h⟩
  | cons hv k ih =>
    refine ⟨by simp [ih.1], fun i c d h1 h2 => ?_⟩
    cases i with
    | zero => simp at h1 h2; subst h1 h2; exact hv
    | succ i => simp at h1 h2; exact ih.2 i c d h1 h2
theorem View.agg_ {cs ds : List AV} (v : Vs h cs ds) : View h (.agg cs) (.agg ds) := .agg cs ds v.spec.1 v.spec.2
theorem View.fn_ {f : FuncId} {cs ds : List AV} (v : Vs h cs ds) : View h (.fn f cs) (.fn f ds) := .fn f cs ds v.spec.1 v.spec.2
def SFlat : Slot → Prop
  | .live l => ∀ o ∈ l, o.cs.flat
  | _ => True
theorem sflat_lv {hs : List Slot} (hf : ∀ s ∈ hs, SFlat s) {p f : Nat} {o : AObj} (hl : lv (lks hs) p f = some o) : o.cs.flat := by
  obtain ⟨l, h1, h2⟩ := lv_some hl
  unfold lks at h1
  rw [List.getD_eq_getElem?_getD] at h1
  cases hp : hs[p]? with
  | none => rw [hp] at h1; cases h1
  | some s =>
    rw [hp] at h1
    have h1 : s = .live l := h1
    subst h1
    exact hf _ (List.mem_of_getElem? hp) o (List.mem_of_getElem? h2)
/-- a call that sees own memory as data and gives back none of it -/
theorem st_callV (B : Nat) {f : FuncId} {x : Operand} {args : Array Operand} {at_ : Array TypeId} {caps as : List AV} {hs : List Slot} {r r' : AV} (hx : evA N ⟨t, h⟩ x = .fn f caps) (ha : Vs h (evL N ⟨t, h⟩ args.toList ++ caps) as) (hF : FnC P f [] as hs r) (hfl : r.flat = true) (hfs : ∀ s ∈ hs, SFlat s) (hB : Abv h B)
    (hr : RenR (B + ·) r r') (hb : BirR (B + ·) B hs h h') : Heavy1 P N ⟨dst, .call ⟨.value x, args, at_⟩, ty, pos, aft, g⟩ ⟨t, h⟩ r' h' ∧ ∀ k, h k ≠ .no → h' k = h k := by
  refine ⟨fun E F μ w ρ H st => ?_, fun k hk => by rw [hb.eq_]; exact births_old h hB _ k hk⟩
  obtain ⟨cap, c1, c2, c3⟩ := args_rep st hx
  rw [call_run hF.c c1]
  obtain ⟨s1, s2⟩ := ha.spec
  have own_lt : ∀ b, OwnB μ h b → b < w.heap.size := fun b ⟨k, f, o, hl, hm⟩ => H.lt hl hm
  refine (hF.g w (fun b => F b ∨ OwnB μ h b) (fun p f => μ (B + p) f) _ (H.glob.evo (fun _ _ => rfl) fun _ => .inl) (HInv.start fun b hb => hb.elim (H.fz b) (own_lt b)) (c2.trans s1) fun i v a h1 h2 => ?_).mono ?_
  · have hlt : i < as.length := (List.getElem?_eq_some_iff.1 h2).1
    have h3 := List.getElem?_eq_getElem (show i < (evL N ⟨t, h⟩ args.toList ++ caps).length by omega)
    exact ARep.view H (s2 i _ a h3 h2) v (c3 i v _ h1 h3)
  · rintro e w' ⟨v, F1, μ1, rfl, H1, hv⟩
    rw [lks_nil] at H1
    have H2 := H1.flatF (F := F) (gl' := H.glob) (D := OwnB μ h) (fun b hb => hb) (fun b hb => ⟨.inl hb, fun ⟨k, f, o, hl, hm⟩ => H.sep _ _ _ b hl hm hb⟩) (fun p f o hl => sflat_lv hfs hl) own_lt
    rw [← lks_nil] at H2
    obtain ⟨μ', J1, J2, J3⟩ := H.join0 hB H2
    refine ⟨v, rfl, fun b => F1 b ∧ ¬ OwnB μ h b, μ', ?_, ?_, ?_⟩
    · rw [hb.eq_]; exact J1
    · rw [hb.eq_]; exact J2
    · rw [hb.eq_, hr.eq_]; exact (hv.reF hfl).ren J3

/-! entry and return -/
theorem View.ext {h h2 : Heap} (he : ∀ p, h p ≠ .no → h2 p = h p) {c d : AV} (v : View h c d) : View h2 c d := by
  have lve : ∀ {k f o}, lv h k f = some o → lv h2 k f = some o := fun {k f o} hl => by
    obtain ⟨l, h1, h3⟩ := lv_some hl
    rw [lv_live ((he k (by rw [h1]; intro e; cases e)).trans h1)]; exact h3
  induction v with
  | d x => exact .d x
  | agg cs ds hl hv ih => exact .agg cs ds hl ih
  | tup cs ds hl hv ih => exact .tup cs ds hl ih
  | fn g cs ds hl hv ih => exact .fn g cs ds hl ih
  | ref cs ds hp => exact .ref cs ds hp
  | row k f n o ds ho hn hd hc hv ih => exact .row k f n o ds (lve ho) hn hd hc ih
  | ptr k f n i j o cells ds ho hn hi hl hv ih => exact .ptr k f n i j o cells ds (lve ho) hn hi hl ih
theorem Vs.ext {h h2 : Heap} (he : ∀ p, h p ≠ .no → h2 p = h p) {cs ds : List AV} (v : Vs h cs ds) : Vs h2 cs ds := by
  induction v with
  | nil => exact .nil
  | cons hv k ih => exact .cons (hv.ext he) ih
theorem births_over {h hx : Heap} {B : Nat} (hB : Abv h B) (hxB : Abv hx B) (ss : List Slot) : births hx B ss = over B hx (births h B ss) := by
  funext p
  rcases Nat.lt_or_ge p B with hlt | hge
  · rw [over_lt hlt, births_lo _ _ _ _ hlt]
  · rw [over_ge hge]
    obtain ⟨q, rfl⟩ := Nat.le.dest hge
    rw [births_hi _ _ _ _ hB, births_hi _ _ _ _ hxB]
theorem birR_of {ι : Nat → Nat} : ∀ (hs : List Slot) (B : Nat) (h : Heap), BirR ι B hs h (births h B (hs.map (Slot.ren ι)))
  | [], B, h => .nil B h
  | s :: ss, B, h => .cons (.gen s) (birR_of ss (B + 1) _)
theorem evA_h (x : Operand) (h2 : Heap) : evA N ⟨t, h⟩ x = evA N ⟨t, h2⟩ x := by cases x <;> rfl
theorem evL_h (xs : List Operand) (h2 : Heap) : evL N ⟨t, h⟩ xs = evL N ⟨t, h2⟩ xs := by
  rw [evL_map, evL_map]; exact List.map_congr_left fun x _ => evA_h x h2
/-- a call in a drawn region -/
theorem sb_call (B : Nat) {f : FuncId} {x : Operand} {args : Array Operand} {at_ : Array TypeId} {caps as : List AV} {hs : List Slot} {r r' : AV} (hx : evA N ⟨t, h⟩ x = .fn f caps) (ha : evL N ⟨t, h⟩ args.toList ++ caps = as) (hfr : AV.freeL as = true) (hF : FnC P f [] as hs r) (hB : Abv h B)
    (hr : RenR (B + ·) r r') (hb : BirR (B + ·) B hs h h') : Abv h B ∧ (∀ h2 : Heap, Abv h2 B → (∀ p, h p ≠ .no → h2 p = h p) → Heavy1 P N ⟨dst, .call ⟨.value x, args, at_⟩, ty, pos, aft, g⟩ ⟨t, h2⟩ r' (over B h2 h')) ∧ over B h h' = h' := by
  refine ⟨hB, fun h2 hB2 he => ?_, ?_⟩
  · rw [hb.eq_, ← births_over hB hB2]
    exact (st_call B ((evA_h x h).trans hx) (by rw [evL_h args.toList h]; exact ha) hfr hF hB2 hr (birR_of hs B h2)).1
  · rw [hb.eq_, ← births_over hB hB]
theorem sb_callV (B : Nat) {f : FuncId} {x : Operand} {args : Array Operand} {at_ : Array TypeId} {caps as : List AV} {hs : List Slot} {r r' : AV} (hx : evA N ⟨t, h⟩ x = .fn f caps) (ha : Vs h (evL N ⟨t, h⟩ args.toList ++ caps) as) (hF : FnC P f [] as hs r) (hfl : r.flat = true) (hfs : ∀ s ∈ hs, SFlat s) (hB : Abv h B)
    (hr : RenR (B + ·) r r') (hb : BirR (B + ·) B hs h h') : Abv h B ∧ (∀ h2 : Heap, Abv h2 B → (∀ p, h p ≠ .no → h2 p = h p) → Heavy1 P N ⟨dst, .call ⟨.value x, args, at_⟩, ty, pos, aft, g⟩ ⟨t, h2⟩ r' (over B h2 h')) ∧ over B h h' = h' := by
  refine ⟨hB, fun h2 hB2 he => ?_, ?_⟩
  · rw [hb.eq_, ← births_over hB hB2]
    exact (st_callV B ((evA_h x h).trans hx) (by rw [evL_h args.toList h]; exact ha.ext he) hF hfl hfs hB2 hr (birR_of hs B h2)).1
  · rw [hb.eq_, ← births_over hB hB]
inductive ResR (T : Tab) (N : Nat) (σ : AS) : List ResultVar → List AV → Prop
  | nil : ResR T N σ [] []
  | tmp {u : Tmp} {a : AV} {rs : List ResultVar} {as : List AV} (h : evA N σ (.tmp u) = a) (k : ResR T N σ rs as) : ResR T N σ (.tmp u :: rs) (a :: as)
  | cell1 {u : Tmp} {ty : TypeId} {ti : TI} {k f n ix j : Nat} {o : AObj} {cells : List AV} {c : AV} {rs : List ResultVar} {as : List AV} (hx : evA N σ (.tmp u) = .ptr k f n ix j) (h1 : T ty = some ti) (h2 : isRow ti.desc = false) (ho : lv σ.h k f = some o) (hn : o.cs.len = n)
      (hi : o.cs.get ix = some cells) (hc : cells[j]? = some c) (q : ResR T N σ rs as) : ResR T N σ (.cell u ty :: rs) (c :: as)
  | cellN {u : Tmp} {ty : TypeId} {ti : TI} {k f n ix j : Nat} {o : AObj} {cells out : List AV} {rs : List ResultVar} {as : List AV} (hx : evA N σ (.tmp u) = .ptr k f n ix j) (h1 : T ty = some ti) (h2 : isRow ti.desc = true) (ho : lv σ.h k f = some o) (hn : o.cs.len = n)
      (hi : o.cs.get ix = some cells) (hc : Seg j ti.size cells out) (q : ResR T N σ rs as) : ResR T N σ (.cell u ty :: rs) (.agg out :: as)
def resA : List AV → AV
  | [a] => a
  | l => .tup l
def resOne (a : Act) : ResultVar → Sem Value
  | .tmp t => pure (a.tmps.getD t undef)
  | .cell p t => do loadVar t (← asAddr (a.tmps.getD p undef))
theorem ResR.run (hT : TOk P T) {σ : AS} {rs : List ResultVar} {as : List AV} (R : ResR T N σ rs as) {F : Nat → Prop} {μ : Places} {a : Act} {w : World} (A : AbsF L E N F μ σ a w) :
    ∃ vs : List Value, (rs.mapM (resOne a)).run P w = .ok vs w ∧ vs.length = as.length ∧ ∀ (i : Nat) v c, vs[i]? = some v → as[i]? = some c → ARep w F μ σ.h v c := by
  have consOk : ∀ {rv : ResultVar} {rs : List ResultVar} {v : Value} {c : AV} {as : List AV}, (resOne a rv).run P w = .ok v w → ARep w F μ σ.h v c →
      (∃ vs : List Value, (rs.mapM (resOne a)).run P w = .ok vs w ∧ vs.length = as.length ∧ ∀ (i : Nat) v c, vs[i]? = some v → as[i]? = some c → ARep w F μ σ.h v c) →
      ∃ vs : List Value, ((rv :: rs).mapM (resOne a)).run P w = .ok vs w ∧ vs.length = (c :: as).length ∧ ∀ (i : Nat) v d, vs[i]? = some v → (c :: as)[i]? = some d → ARep w F μ σ.h v d := by
    rintro rv rs v c as h1 h2 ⟨vs, e1, e2, e3⟩
    refine ⟨v :: vs, by simp [List.mapM_cons, h1, e1], by simp [e2], fun i v' d h3 h4 => ?_⟩
    cases i with
    | zero => simp at h3 h4; subst h3 h4; exact h2
    | succ i => simp at h3 h4; exact e3 i v' d h3 h4
  induction R with
  | nil => exact ⟨[], by simp, rfl, fun i v c h => by simp at h⟩
  | tmp hh k ih =>
    rename_i u a' rs as
    exact consOk (v := a.tmps.getD u undef) rfl (by rw [← hh]; exact evA_rep A (.tmp _)) ih
  | cell1 hx h1 h2 ho hn hi hc q ih =>
    rename_i u0 ty ti k f n ix j o cells c rs as
    have hr := evA_rep A (.tmp u0)
    rw [hx] at hr
    obtain ⟨b, cur, hv, hm, hb, hlen, hcs⟩ := ptr_at A.H hr ho hn hi
    obtain ⟨u, hu, hr2⟩ := hcs _ _ hc
    have hcell := (cell_of_row w b _ cur _ (0, 0) hb).trans hu
    refine consOk ?_ hr2 ih
    have hv' : a.tmps.getD u0 undef = .pointer (some ⟨b, ix * o.sz + j, none⟩) := hv
    simp only [resOne, hv', asAddr, loadVar]
    simp [Sem.run_bind, run_isAgg hT h1, h2, hcell]
  | cellN hx h1 h2 ho hn hi hc q ih =>
    rename_i u ty ti k f n ix j o cells out rs as
    have hr := evA_rep A (.tmp u)
    rw [hx] at hr
    obtain ⟨b, cur, hv, hm, hb, hlen, hcs⟩ := ptr_at A.H hr ho hn hi
    obtain ⟨s1, s2, s3⟩ := hc.spec
    have hall : ∀ q, q < ti.size → ∃ u, cur[ix * o.sz + j + q]? = some u ∧ ∀ c, out[q]? = some c → ARep w F μ σ.h u c := fun q hq => by
      obtain ⟨u, hu, hr2⟩ := hcs (j + q) _ (s3 q _ (List.getElem?_eq_getElem (show q < out.length by omega)))
      exact ⟨u, by rw [Nat.add_assoc]; exact hu, fun c hc => by rw [List.getElem?_eq_getElem (show q < out.length by omega)] at hc; injection hc with hc; rw [← hc]; exact hr2⟩
    obtain ⟨v1, v2⟩ := cut_list cur (ix * o.sz + j) ti.size fun q hq => by obtain ⟨u, hu, _⟩ := hall q hq; exact ⟨u, hu⟩
    have hrun := run_loadN (P := P) hT h1 h2 w b (ix * o.sz + j) ((cur.toList.drop (ix * o.sz + j)).take ti.size) v1 (fun q v hq => by
      rw [cell_of_row w b _ cur o.ty (0, 0) hb]
      exact (v2 q v hq).2)
    have hv' : a.tmps.getD u undef = .pointer (some ⟨b, ix * o.sz + j, none⟩) := hv
    refine consOk (v := .agg ((cur.toList.drop (ix * o.sz + j)).take ti.size).toArray) ?_ (.agg _ out (by simp only [List.size_toArray]; omega) fun q v c hq hc => ?_) ih
    · simp only [resOne, hv', asAddr]
      have := hrun
      simp only [Instr.loadAt, Instr.sureAddr] at this
      exact this
    · have hq' : ((cur.toList.drop (ix * o.sz + j)).take ti.size)[q]? = some v := by simpa using hq
      obtain ⟨hlt, hcur⟩ := v2 q v hq'
      obtain ⟨u, hu, hr2⟩ := hall q hlt
      rw [hcur] at hu
      injection hu with hu
      rw [hu]
      exact hr2 c hc
theorem results_run (hT : TOk P T) {fn : Func} {σ : AS} {rs : List ResultVar} {as : List AV} (hrs : fn.results.toList = rs) (R : ResR T N σ rs as) {F : Nat → Prop} {μ : Places} {a : Act} {w : World} (A : AbsF L E N F μ σ a w) : ∃ v, (results fn a.tmps).run P w = .ok v w ∧ ARep w F μ σ.h v (resA as) := by
  obtain ⟨vs, e1, e2, e3⟩ := R.run hT A
  have hm : (fn.results.mapM (resOne a)).run P w = .ok vs.toArray w := by
    rw [Array.mapM_eq_mapM_toList, hrs, Sem.run_map, e1]; rfl
  have hres : (results fn a.tmps).run P w = .ok (if h : vs.toArray.size = 1 then vs.toArray[0] else .tuple vs.toArray) w := by
    have e : results fn a.tmps = fn.results.mapM (resOne a) >>= fun vs => pure (if h : vs.size = 1 then vs[0] else .tuple vs) := by
      unfold results
      congr 1
    rw [e, Sem.run_bind, hm]; rfl
  refine ⟨_, hres, ?_⟩
  rcases as with _ | ⟨c, _ | ⟨c2, cs⟩⟩
  · have : vs = [] := List.eq_nil_of_length_eq_zero (by simpa using e2)
    subst this
    exact .tup #[] [] rfl fun i v c h => by simp at h
  · obtain ⟨v, rfl⟩ := List.length_eq_one_iff.1 e2
    exact e3 0 v c rfl rfl
  · have hne : ¬ vs.toArray.size = 1 := by simp at e2 ⊢; omega
    rw [dif_neg hne]
    exact .tup _ _ (by simpa using e2) fun i v c h1 h2 => e3 i v c (by simpa using h1) h2
end
end Go.Proofs.YtjhadibjjldpdaaGreat
