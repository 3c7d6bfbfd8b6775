/- Texts of this claim, one behind the other (merged by a program of mine). -/
import Derived.Laws.Concat
import Derived.Laws.Strings
import Derived.Laws.DeepStrings4
import Derived.Laws.IdiomStrings
import Derived.Laws.BytesArg
import Derived.Laws.Cover3
import Derived.Lib.Join
import Derived.Test.YtlakbomkpnlidaaGreatGR1
set_option linter.unusedSimpArgs false
set_option linter.unusedVariables false
namespace Go.Proofs.YtlakbomkpnlidaaGreat
open Go.RowKit
set_option linter.unusedVariables false
set_option maxRecDepth 100000

mutual
def AV.free : AV → Bool
  | .d _ => true
  | .agg cs => AV.freeL cs
  | .tup cs => AV.freeL cs
  | .ref _ => true
  | .ptr .. => false
  | .own .. => false
  | .fn _ cs => AV.freeL cs
  | .dead => true
def AV.freeL : List AV → Bool
  | [] => true
  | c :: cs => c.free && AV.freeL cs
end
theorem freeL_get : ∀ {cs : List AV}, AV.freeL cs = true → ∀ {i : Nat} {c : AV}, cs[i]? = some c → c.free = true
  | [], _, i, c, hc => by simp at hc
  | x :: cs, h, 0, c, hc => by simp [AV.freeL] at h hc; rw [← hc]; exact h.1
  | x :: cs, h, i + 1, c, hc => by simp [AV.freeL] at h hc; exact freeL_get h.2 hc
theorem ARep.free_ {w : World} {F : Nat → Prop} {μ μ2 : Places} {h h2 : Heap} {v : Value} {a : AV} (r : ARep w F μ h v a) : a.free = true → ARep w F μ2 h2 v a := by
  induction r with
  | d v x hd => intro _; exact .d v x hd
  | agg vs cs hs hr ih => intro hf; exact .agg vs cs hs fun i v c hv hc => ih i v c hv hc (freeL_get (by simpa [AV.free] using hf) hc)
  | tup vs cs hs hr ih => intro hf; exact .tup vs cs hs fun i v c hv hc => ih i v c hv hc (freeL_get (by simpa [AV.free] using hf) hc)
  | ref b off cs g hF hg hr => intro _; exact .ref b off cs g hF hg hr
  | ptr v k f n i j h1 hb hv => intro hf; simp [AV.free] at hf
  | own v k f n h1 hb hv => intro hf; simp [AV.free] at hf
  | fn g vs cs hs hr ih => intro hf; exact .fn g vs cs hs fun i v c hv hc => ih i v c hv hc (freeL_get (by simpa [AV.free] using hf) hc)
  | dead v => intro _; exact .dead v

mutual
inductive RenR (ι : Nat → Nat) : AV → AV → Prop
  | d (x : DV) : RenR ι (.d x) (.d x)
  | agg {cs ds : List AV} (h : RenRL ι cs ds) : RenR ι (.agg cs) (.agg ds)
  | tup {cs ds : List AV} (h : RenRL ι cs ds) : RenR ι (.tup cs) (.tup ds)
  | ref (cs : List DV) : RenR ι (.ref cs) (.ref cs)
  | ptr (k f n i j k' : Nat) (h : ι k = k') : RenR ι (.ptr k f n i j) (.ptr k' f n i j)
  | own (k f n k' : Nat) (h : ι k = k') : RenR ι (.own k f n) (.own k' f n)
  | fn {g : FuncId} {cs ds : List AV} (h : RenRL ι cs ds) : RenR ι (.fn g cs) (.fn g ds)
  | dead : RenR ι .dead .dead
inductive RenRL (ι : Nat → Nat) : List AV → List AV → Prop
  | nil : RenRL ι [] []
  | cons {c d : AV} {cs ds : List AV} (h : RenR ι c d) (k : RenRL ι cs ds) : RenRL ι (c :: cs) (d :: ds)
end
mutual
theorem RenR.eq_ {ι : Nat → Nat} : ∀ {a b : AV}, RenR ι a b → b = a.ren ι
  | _, _, .d x => rfl
  | _, _, .agg h => by rw [AV.ren, RenRL.eq_ h]
  | _, _, .tup h => by rw [AV.ren, RenRL.eq_ h]
  | _, _, .ref cs => rfl
  | _, _, .ptr k f n i j k' h => by rw [AV.ren, h]
  | _, _, .own k f n k' h => by rw [AV.ren, h]
  | _, _, .fn h => by rw [AV.ren, RenRL.eq_ h]
  | _, _, .dead => rfl
theorem RenRL.eq_ {ι : Nat → Nat} : ∀ {a b : List AV}, RenRL ι a b → b = AV.renL ι a
  | _, _, .nil => rfl
  | _, _, .cons h k => by rw [AV.renL, RenR.eq_ h, RenRL.eq_ k]
end
inductive RenS (ι : Nat → Nat) : Slot → Slot → Prop
  | no : RenS ι .no .no
  | dead : RenS ι .dead .dead
  | data (ty : TypeId) (sz : Nat) (es : List (List DV)) : RenS ι (.live [⟨ty, sz, .data es⟩]) (.live [⟨ty, sz, .data es⟩])
  | box (ty : TypeId) (sz : Nat) {cs ds : List AV} (h : RenRL ι cs ds) : RenS ι (.live [⟨ty, sz, .av [cs]⟩]) (.live [⟨ty, sz, .av [ds]⟩])
  | gen (s : Slot) : RenS ι s (s.ren ι)
theorem RenS.eq_ {ι : Nat → Nat} {a b : Slot} (h : RenS ι a b) : b = a.ren ι := by
  cases h with
  | no => rfl
  | dead => rfl
  | data => rfl
  | box ty sz h => rw [h.eq_]; rfl
  | gen => rfl
def nestC (kf i : Nat) : List DV → List AV
  | [] => []
  | .v x :: l => .d (.v x) :: nestC kf i l
  | .sl es :: l => .own kf i es.length :: nestC kf i l
def slOf : List DV → List (List DV)
  | [] => []
  | .v _ :: l => slOf l
  | .sl es :: _ => es
def slCnt : List DV → Nat
  | [] => 0
  | .v _ :: l => slCnt l
  | .sl _ :: l => slCnt l + 1
def nestL {α : Type} (kf : Nat) (c : α → List DV) (x : List α) : List (List AV) := x.mapIdx fun i a => nestC kf i (c a)
def famL {α : Type} (ft : TypeId) (fz : Nat) (c : α → List DV) (x : List α) : List AObj := x.map fun a => ⟨ft, fz, .data (slOf (c a))⟩
theorem nestC_ren {ι : Nat → Nat} (kf i : Nat) : ∀ l : List DV, AV.renL ι (nestC kf i l) = nestC (ι kf) i l
  | [] => rfl
  | .v x :: l => by simp [nestC, AV.renL, AV.ren, nestC_ren kf i l]
  | .sl es :: l => by simp [nestC, AV.renL, AV.ren, nestC_ren kf i l]
theorem RenS.nest {ι : Nat → Nat} {α : Type} {ty : TypeId} {sz kf kf' : Nat} {c : α → List DV} {x : List α} (hk : ι kf = kf') : RenS ι (.live [⟨ty, sz, .av (nestL kf c x)⟩]) (.live [⟨ty, sz, .av (nestL kf' c x)⟩]) := by
  have e : (Slot.live [⟨ty, sz, .av (nestL kf' c x)⟩]) = (Slot.live [⟨ty, sz, .av (nestL kf c x)⟩]).ren ι := by
    subst hk
    simp only [Slot.ren, List.map_cons, List.map_nil, AObj.ren, Cells.ren]
    congr 4
    apply List.ext_getElem?
    intro i
    simp only [nestL, List.getElem?_map, List.getElem?_mapIdx]
    cases x[i]? <;> simp [nestC_ren]
  rw [e]; exact .gen _
theorem RenS.fam {ι : Nat → Nat} {α : Type} {ft : TypeId} {fz : Nat} {c : α → List DV} {x : List α} : RenS ι (.live (famL ft fz c x)) (.live (famL ft fz c x)) := by
  have e : (Slot.live (famL ft fz c x)) = (Slot.live (famL ft fz c x)).ren ι := by
    simp [Slot.ren, famL, AObj.ren, Cells.ren]
  have := RenS.gen (ι := ι) (Slot.live (famL ft fz c x))
  rwa [← e] at this
inductive BirR (ι : Nat → Nat) : Nat → List Slot → Heap → Heap → Prop
  | nil (B : Nat) (h : Heap) : BirR ι B [] h h
  | cons {B : Nat} {s s' : Slot} {ss : List Slot} {h h' : Heap} (hs : RenS ι s s') (k : BirR ι (B + 1) ss (upd h B s') h') : BirR ι B (s :: ss) h h'
theorem BirR.eq_ {ι : Nat → Nat} {B : Nat} {ss : List Slot} {h h' : Heap} (b : BirR ι B ss h h') : h' = births h B (ss.map (Slot.ren ι)) := by
  induction b with
  | nil => rfl
  | cons hs k ih => rw [ih, hs.eq_]; rfl
theorem births_old (h : Heap) {B : Nat} (hB : Abv h B) (ss : List Slot) (k : Nat) (hk : h k ≠ .no) : births h B ss k = h k := by
  refine births_lo h ss B k ?_
  rcases Nat.lt_or_ge k B with hlt | hge
  · exact hlt
  · exact absurd (hB k hge) hk

def callB (P : Program) (f : FuncId) : Bool :=
  match P.funcs[f]? with
  | some fn => !(fn.name == "runtime.NumGoroutine") && fn.body.isSome
  | none => false
structure FnC (P : Program) (f : FuncId) (hin : List Slot) (args : List AV) (hout : List Slot) (r : AV) : Prop where
  c : callB P f = true
  g : FnG P f hin args hout r
section
variable {P : Program} {T : Tab} {L N : Nat} {ops : Array Oper} {E : Env} {K : List (Nat × Cls) → AS → Prop} {i : Nat} {is : List Nat} {t : Nat → AV} {h h' : Heap} {d : Tmp} {dst : Option Tmp} {op : Op} {ty : TypeId} {pos : String} {aft : Array Edge} {g : Option (Nat × Bool)}

theorem wr_append (hT : TOk P T) {bt e : TypeId} {s x : Operand} {k f n : Nat} {news : List (List DV)} {l l' : List AObj} {o : AObj} {cc : Cells} {ti ei : TI} (hs : evA N ⟨t, h⟩ s = .own k f n) (hx : evA N ⟨t, h⟩ x = .d (.sl news)) (h1 : T bt = some ti) (h2 : ti.desc = .slice e) (h3 : T e = some ei)
    (hzs : Nat.beq ei.zero.cells.size ei.size = true) (hpos : Nat.blt 0 ei.size = true) (hk : h k = .live l) (hf : l[f]? = some o) (hn : o.cs.len = n) (hty : o.ty = e) (hsz : o.sz = ei.size) (hnl : ∀ x ∈ news, x.length = ei.size) (happ : App o.cs (.data news) cc) (hl' : SetO l f ⟨o.ty, o.sz, cc⟩ l')
    (hby : (n + news.length) * ei.bytes ≤ 140737488355328) (hm : n + news.length ≤ 140737488355328) :
    Heavy1 P N ⟨dst, .call ⟨.builtin .append, #[s, x], #[bt, bt]⟩, ty, pos, aft, g⟩ ⟨t, h⟩ (.own k f (n + news.length)) (upd h k (.live l')) := fun E F μ w ρ H st => by
  have hr := st s (by simp [Op.operands, Call.operands])
  have hr2 := st x (by simp [Op.operands, Call.operands])
  rw [hs] at hr; rw [hx] at hr2
  have hlo : lv h k f = some o := (lv_live hk f).trans hf
  generalize hvs : ρ s = vs at hr
  cases hr with | own _ _ _ _ g1 hb hv =>
  obtain ⟨v', w', q1, F', μ', q2, q3, q4⟩ := append_core (ty := ty) hT h1 h2 h3 hzs hpos H hk hf hn hty hsz ((hv o hlo).2 hn) (reads_sl hr2 hnl) happ hby hm
  rw [hl'.eq_]
  have e1 : (execOp ρ ⟨dst, .call ⟨.builtin .append, #[s, x], #[bt, bt]⟩, ty, pos, aft, g⟩).run P w = .ok (.value v') w' := by
    simp [execOp, resolve, invoke, builtin, hvs, q1]
  rw [e1]
  exact ⟨F', μ', q2, q3, q4⟩
theorem wr_append_own (hT : TOk P T) {bt e : TypeId} {s x : Operand} {k f n k2 f2 m : Nat} {l l' : List AObj} {o o2 : AObj} {cc : Cells} {ti ei : TI} (hs : evA N ⟨t, h⟩ s = .own k f n) (hx : evA N ⟨t, h⟩ x = .own k2 f2 m) (h1 : T bt = some ti) (h2 : ti.desc = .slice e) (h3 : T e = some ei)
    (hzs : Nat.beq ei.zero.cells.size ei.size = true) (hpos : Nat.blt 0 ei.size = true) (hk : h k = .live l) (hf : l[f]? = some o) (hn : o.cs.len = n) (hty : o.ty = e) (hsz : o.sz = ei.size) (ho2 : lv h k2 f2 = some o2) (hm2 : o2.cs.len = m) (hs2 : o2.sz = ei.size) (hok : o2.cs.oks) (happ : App o.cs o2.cs cc) (hl' : SetO l f ⟨o.ty, o.sz, cc⟩ l')
    (hby : (n + m) * ei.bytes ≤ 140737488355328) (hm : n + m ≤ 140737488355328) :
    Heavy1 P N ⟨dst, .call ⟨.builtin .append, #[s, x], #[bt, bt]⟩, ty, pos, aft, g⟩ ⟨t, h⟩ (.own k f (n + m)) (upd h k (.live l')) := fun E F μ w ρ H st => by
  have hr := st s (by simp [Op.operands, Call.operands])
  have hr2 := st x (by simp [Op.operands, Call.operands])
  rw [hs] at hr; rw [hx] at hr2
  have hlo : lv h k f = some o := (lv_live hk f).trans hf
  generalize hvs : ρ s = vs at hr
  cases hr with | own _ _ _ _ g1 hb hv =>
  have hrd := reads_own H hr2 ho2 hm2 hok
  rw [hs2] at hrd
  subst hm2
  obtain ⟨v', w', q1, F', μ', q2, q3, q4⟩ := append_core (ty := ty) hT h1 h2 h3 hzs hpos H hk hf hn hty hsz ((hv o hlo).2 hn) hrd happ hby hm
  rw [hl'.eq_]
  have e1 : (execOp ρ ⟨dst, .call ⟨.builtin .append, #[s, x], #[bt, bt]⟩, ty, pos, aft, g⟩).run P w = .ok (.value v') w' := by
    simp [execOp, resolve, invoke, builtin, hvs, q1]
  rw [e1]
  exact ⟨F', μ', q2, q3, q4⟩
theorem upd_upd (h : Heap) (k : Nat) (s s' : Slot) : upd (upd h k s) k s' = upd h k s' := by
  funext k'
  by_cases e : k' = k
  · subst e; rw [upd_same, upd_same]
  · rw [upd_ne _ _ e, upd_ne _ _ e, upd_ne _ _ e]
theorem st_append_nil (k : Nat) (hT : TOk P T) {bt e : TypeId} {s x : Operand} {news : List (List DV)} {ti ei : TI} (hs : evA N ⟨t, h⟩ s = .d (.v (.slice none 0 0))) (hx : evA N ⟨t, h⟩ x = .d (.sl news)) (h1 : T bt = some ti) (h2 : ti.desc = .slice e) (h3 : T e = some ei)
    (hzs : Nat.beq ei.zero.cells.size ei.size = true) (hpos : Nat.blt 0 ei.size = true) (hk : h k = .no) (hnl : ∀ x ∈ news, x.length = ei.size) (hby : news.length * ei.bytes ≤ 140737488355328) (hm : news.length ≤ 140737488355328) :
    Heavy1 P N ⟨dst, .call ⟨.builtin .append, #[s, x], #[bt, bt]⟩, ty, pos, aft, g⟩ ⟨t, h⟩ (.own k 0 news.length) (upd h k (.live [⟨e, ei.size, .data news⟩])) ∧ ∀ k', h k' ≠ .no → upd h k (.live [⟨e, ei.size, .data news⟩]) k' = h k' := by
  refine ⟨fun E F μ w ρ H st => ?_, ext_upd hk⟩
  have hr := rep_v (by have := st s (by simp [Op.operands, Call.operands]); rw [hs] at this; exact this)
  have hr2 := st x (by simp [Op.operands, Call.operands])
  rw [hx] at hr2
  obtain ⟨H1, V1⟩ := H.adopt k hk ⟨e, ei.size, .data []⟩ rfl
  obtain ⟨v', w', q1, F', μ', q2, q3, q4⟩ := append_core (ty := ty) (n := 0) (f := 0) (v := .slice none 0 0) hT h1 h2 h3 hzs hpos H1 (upd_same h k _) rfl rfl rfl rfl (.inl ⟨updP_same _ _ _ _, rfl, rfl⟩) (reads_sl (hr2.evo V1) hnl) (.data [] news) (by simpa [Cells.len] using hby) (by simpa [Cells.len] using hm)
  rw [upd_upd] at q2 q3 q4
  have e1 : (execOp ρ ⟨dst, .call ⟨.builtin .append, #[s, x], #[bt, bt]⟩, ty, pos, aft, g⟩).run P w = .ok (.value v') w' := by
    simp [execOp, resolve, invoke, builtin, hr, q1]
  rw [e1]
  refine ⟨F', μ', q2, V1.trans ?_, ?_⟩
  · have := q3; simpa using this
  · simpa [Cells.len] using q4

theorem call_run {f : FuncId} {x : Operand} {args : Array Operand} {at_ : Array TypeId} {ρ : Operand → Value} {cap : Array Value} {w : World} (hc : callB P f = true) (hx : ρ x = .func (.func f) #[] cap) :
    (execOp ρ ⟨dst, .call ⟨.value x, args, at_⟩, ty, pos, aft, g⟩).run P w = .ok (.enter f (args.map ρ ++ cap)) w := by
  unfold callB at hc
  cases hf : P.funcs[f]? with
  | none => simp [hf] at hc
  | some fn =>
    simp only [hf, Bool.and_eq_true, Bool.not_eq_true'] at hc
    obtain ⟨h1, h2⟩ := hc
    obtain ⟨bd, hbd⟩ := Option.isSome_iff_exists.1 h2
    have h4 : ¬ fn.name = "runtime.NumGoroutine" := by simpa using h1
    simp [execOp, resolve, hx, Deferred.ofValue, invoke, callFunc, hf, h4, hbd]
theorem args_rep {F : Nat → Prop} {μ : Places} {w : World} {x : Operand} {args : Array Operand} {at_ : Array TypeId} {ρ : Operand → Value} {f : FuncId} {caps : List AV} (st : Stand N ⟨dst, .call ⟨.value x, args, at_⟩, ty, pos, aft, g⟩ ⟨t, h⟩ ρ w F μ h) (hx : evA N ⟨t, h⟩ x = .fn f caps) :
    ∃ cap, ρ x = .func (.func f) #[] cap ∧ (args.map ρ ++ cap).size = (evL N ⟨t, h⟩ args.toList ++ caps).length ∧ ∀ (i : Nat) v a, (args.map ρ ++ cap)[i]? = some v → (evL N ⟨t, h⟩ args.toList ++ caps)[i]? = some a → ARep w F μ h v a := by
  have hr := st x (by simp [Op.operands, Call.operands])
  rw [hx] at hr
  generalize hv : ρ x = v at hr
  cases hr with | fn _ vs _ hs hr =>
  refine ⟨vs, rfl, by simp [evL_map, hs], fun i v a h1 h2 => ?_⟩
  rw [evL_map] at h2
  rw [Array.getElem?_append] at h1
  rw [List.getElem?_append] at h2
  simp only [Array.size_map, List.length_map, Array.length_toList] at h1 h2
  by_cases hi : i < args.size
  · rw [if_pos hi] at h1 h2
    rw [Array.getElem?_map] at h1
    rw [List.getElem?_map, Array.getElem?_toList] at h2
    obtain ⟨y, hy, rfl⟩ := Option.map_eq_some_iff.1 h1
    rw [hy] at h2
    simp at h2
    subst h2
    exact st y (by simp only [Op.operands, Call.operands]; exact Array.mem_append.2 (.inr (Array.mem_of_getElem? hy)))
  · rw [if_neg hi] at h1 h2
    exact hr _ _ _ h1 h2
theorem lks_nil : lks [] = fun _ => Slot.no := by funext p; rfl
theorem HInv.start {F : Nat → Prop} {μ : Places} {w : World} {gl : Glob F w} (hF : ∀ b, F b → b < w.heap.size) : HInv ⟨w, F, μ, lks [], gl⟩ F μ (lks []) w := by
  have no : ∀ {k f o}, lv (lks []) k f = some o → False := fun hl => by simp [lv, lks] at hl
  exact ⟨fun k f o hl => (no hl).elim, fun k f o k' f' o' b hl => (no hl).elim, fun k f o b hl => (no hl).elim, fun k f o b hl => (no hl).elim, hF, fun b hb => .inl hb, Evo.refl_, rfl, rfl, rfl, Nat.le_refl _, fun _ _ _ => rfl⟩
theorem st_call (B : Nat) {f : FuncId} {x : Operand} {args : Array Operand} {at_ : Array TypeId} {caps as : List AV} {hs : List Slot} {r r' : AV} (hx : evA N ⟨t, h⟩ x = .fn f caps) (ha : evL N ⟨t, h⟩ args.toList ++ caps = as) (hfr : AV.freeL as = true) (hF : FnC P f [] as hs r) (hB : Abv h B)
    (hr : RenR (B + ·) r r') (hb : BirR (B + ·) B hs h h') : Heavy1 P N ⟨dst, .call ⟨.value x, args, at_⟩, ty, pos, aft, g⟩ ⟨t, h⟩ r' h' ∧ ∀ k, h k ≠ .no → h' k = h k := by
  refine ⟨fun E F μ w ρ H st => ?_, fun k hk => by rw [hb.eq_]; exact births_old h hB _ k hk⟩
  obtain ⟨cap, c1, c2, c3⟩ := args_rep st hx
  rw [call_run hF.c c1]
  rw [ha] at c2 c3
  refine (hF.g w F (fun p f => μ (B + p) f) _ H.glob (HInv.start H.fz) c2 fun i v a h1 h2 => (c3 i v a h1 h2).free_ (freeL_get hfr h2)).mono ?_
  rintro e w' ⟨v, F', μ1, rfl, H1, hv⟩
  obtain ⟨μ', J1, J2, J3⟩ := H.join0 hB H1
  refine ⟨v, rfl, F', μ', ?_, ?_, ?_⟩
  · rw [hb.eq_]; exact J1
  · rw [hb.eq_]; exact J2
  · rw [hb.eq_, hr.eq_]; exact hv.ren J3
inductive Vs (h : Heap) : List AV → List AV → Prop
  | nil : Vs h [] []
  | cons {c d : AV} {cs ds : List AV} (hv : View h c d) (k : Vs h cs ds) : Vs h (c :: cs) (d :: ds)
theorem Vs.spec {cs ds : List AV} (v : Vs h cs ds) : cs.length = ds.length ∧ ∀ (i : Nat) c d, cs[i]? = some c → ds[i]? = some d → View h c d := by
  induction v with
  | nil => exact ⟨rfl, fun i c d h => by simp at h⟩
  | cons hv k ih =>
    refine ⟨by simp [ih.1], fun i c d h1 h2 => ?_⟩
    cases i with
    | zero => simp at h1 h2; subst h1 h2; exact hv
    | succ i => simp at h1 h2; exact ih.2 i c d h1 h2
theorem View.agg_ {cs ds : List AV} (v : Vs h cs ds) : View h (.agg cs) (.agg ds) := .agg cs ds v.spec.1 v.spec.2
theorem View.fn_ {f : FuncId} {cs ds : List AV} (v : Vs h cs ds) : View h (.fn f cs) (.fn f ds) := .fn f cs ds v.spec.1 v.spec.2
def SFlat : Slot → Prop
  | .live l => ∀ o ∈ l, o.cs.flat
  | _ => True
theorem sflat_lv {hs : List Slot} (hf : ∀ s ∈ hs, SFlat s) {p f : Nat} {o : AObj} (hl : lv (lks hs) p f = some o) : o.cs.flat := by
  obtain ⟨l, h1, h2⟩ := lv_some hl
  unfold lks at h1
  rw [List.getD_eq_getElem?_getD] at h1
  cases hp : hs[p]? with
  | none => rw [hp] at h1; cases h1
  | some s =>
    rw [hp] at h1
    have h1 : s = .live l := h1
    subst h1
    exact hf _ (List.mem_of_getElem? hp) o (List.mem_of_getElem? h2)
theorem st_callV (B : Nat) {f : FuncId} {x : Operand} {args : Array Operand} {at_ : Array TypeId} {caps as : List AV} {hs : List Slot} {r r' : AV} (hx : evA N ⟨t, h⟩ x = .fn f caps) (ha : Vs h (evL N ⟨t, h⟩ args.toList ++ caps) as) (hF : FnC P f [] as hs r) (hfl : r.flat = true) (hfs : ∀ s ∈ hs, SFlat s) (hB : Abv h B)
    (hr : RenR (B + ·) r r') (hb : BirR (B + ·) B hs h h') : Heavy1 P N ⟨dst, .call ⟨.value x, args, at_⟩, ty, pos, aft, g⟩ ⟨t, h⟩ r' h' ∧ ∀ k, h k ≠ .no → h' k = h k := by
  refine ⟨fun E F μ w ρ H st => ?_, fun k hk => by rw [hb.eq_]; exact births_old h hB _ k hk⟩
  obtain ⟨cap, c1, c2, c3⟩ := args_rep st hx
  rw [call_run hF.c c1]
  obtain ⟨s1, s2⟩ := ha.spec
  have own_lt : ∀ b, OwnB μ h b → b < w.heap.size := fun b ⟨k, f, o, hl, hm⟩ => H.lt hl hm
  refine (hF.g w (fun b => F b ∨ OwnB μ h b) (fun p f => μ (B + p) f) _ (H.glob.evo (fun _ _ => rfl) fun _ => .inl) (HInv.start fun b hb => hb.elim (H.fz b) (own_lt b)) (c2.trans s1) fun i v a h1 h2 => ?_).mono ?_
  · have hlt : i < as.length := (List.getElem?_eq_some_iff.1 h2).1
    have h3 := List.getElem?_eq_getElem (show i < (evL N ⟨t, h⟩ args.toList ++ caps).length by omega)
    exact ARep.view H (s2 i _ a h3 h2) v (c3 i v _ h1 h3)
  · rintro e w' ⟨v, F1, μ1, rfl, H1, hv⟩
    rw [lks_nil] at H1
    have H2 := H1.flatF (F := F) (gl' := H.glob) (D := OwnB μ h) (fun b hb => hb) (fun b hb => ⟨.inl hb, fun ⟨k, f, o, hl, hm⟩ => H.sep _ _ _ b hl hm hb⟩) (fun p f o hl => sflat_lv hfs hl) own_lt
    rw [← lks_nil] at H2
    obtain ⟨μ', J1, J2, J3⟩ := H.join0 hB H2
    refine ⟨v, rfl, fun b => F1 b ∧ ¬ OwnB μ h b, μ', ?_, ?_, ?_⟩
    · rw [hb.eq_]; exact J1
    · rw [hb.eq_]; exact J2
    · rw [hb.eq_, hr.eq_]; exact (hv.reF hfl).ren J3

theorem View.ext {h h2 : Heap} (he : ∀ p, h p ≠ .no → h2 p = h p) {c d : AV} (v : View h c d) : View h2 c d := by
  have lve : ∀ {k f o}, lv h k f = some o → lv h2 k f = some o := fun {k f o} hl => by
    obtain ⟨l, h1, h3⟩ := lv_some hl
    rw [lv_live ((he k (by rw [h1]; intro e; cases e)).trans h1)]; exact h3
  induction v with
  | d x => exact .d x
  | agg cs ds hl hv ih => exact .agg cs ds hl ih
  | tup cs ds hl hv ih => exact .tup cs ds hl ih
  | fn g cs ds hl hv ih => exact .fn g cs ds hl ih
  | ref cs ds hp => exact .ref cs ds hp
  | row k f n o ds ho hn hd hc hv ih => exact .row k f n o ds (lve ho) hn hd hc ih
  | ptr k f n i j o cells ds ho hn hi hl hv ih => exact .ptr k f n i j o cells ds (lve ho) hn hi hl ih
theorem Vs.ext {h h2 : Heap} (he : ∀ p, h p ≠ .no → h2 p = h p) {cs ds : List AV} (v : Vs h cs ds) : Vs h2 cs ds := by
  induction v with
  | nil => exact .nil
  | cons hv k ih => exact .cons (hv.ext he) ih
theorem births_over {h hx : Heap} {B : Nat} (hB : Abv h B) (hxB : Abv hx B) (ss : List Slot) : births hx B ss = over B hx (births h B ss) := by
  funext p
  rcases Nat.lt_or_ge p B with hlt | hge
  · rw [over_lt hlt, births_lo _ _ _ _ hlt]
  · rw [over_ge hge]
    obtain ⟨q, rfl⟩ := Nat.le.dest hge
    rw [births_hi _ _ _ _ hB, births_hi _ _ _ _ hxB]
theorem birR_of {ι : Nat → Nat} : ∀ (hs : List Slot) (B : Nat) (h : Heap), BirR ι B hs h (births h B (hs.map (Slot.ren ι)))
  | [], B, h => .nil B h
  | s :: ss, B, h => .cons (.gen s) (birR_of ss (B + 1) _)
theorem evA_h (x : Operand) (h2 : Heap) : evA N ⟨t, h⟩ x = evA N ⟨t, h2⟩ x := by cases x <;> rfl
theorem evL_h (xs : List Operand) (h2 : Heap) : evL N ⟨t, h⟩ xs = evL N ⟨t, h2⟩ xs := by
  rw [evL_map, evL_map]; exact List.map_congr_left fun x _ => evA_h x h2
theorem sb_call (B : Nat) {f : FuncId} {x : Operand} {args : Array Operand} {at_ : Array TypeId} {caps as : List AV} {hs : List Slot} {r r' : AV} (hx : evA N ⟨t, h⟩ x = .fn f caps) (ha : evL N ⟨t, h⟩ args.toList ++ caps = as) (hfr : AV.freeL as = true) (hF : FnC P f [] as hs r) (hB : Abv h B)
    (hr : RenR (B + ·) r r') (hb : BirR (B + ·) B hs h h') : Abv h B ∧ (∀ h2 : Heap, Abv h2 B → (∀ p, h p ≠ .no → h2 p = h p) → Heavy1 P N ⟨dst, .call ⟨.value x, args, at_⟩, ty, pos, aft, g⟩ ⟨t, h2⟩ r' (over B h2 h')) ∧ over B h h' = h' := by
  refine ⟨hB, fun h2 hB2 he => ?_, ?_⟩
  · rw [hb.eq_, ← births_over hB hB2]
    exact (st_call B ((evA_h x h).trans hx) (by rw [evL_h args.toList h]; exact ha) hfr hF hB2 hr (birR_of hs B h2)).1
  · rw [hb.eq_, ← births_over hB hB]
theorem sb_callV (B : Nat) {f : FuncId} {x : Operand} {args : Array Operand} {at_ : Array TypeId} {caps as : List AV} {hs : List Slot} {r r' : AV} (hx : evA N ⟨t, h⟩ x = .fn f caps) (ha : Vs h (evL N ⟨t, h⟩ args.toList ++ caps) as) (hF : FnC P f [] as hs r) (hfl : r.flat = true) (hfs : ∀ s ∈ hs, SFlat s) (hB : Abv h B)
    (hr : RenR (B + ·) r r') (hb : BirR (B + ·) B hs h h') : Abv h B ∧ (∀ h2 : Heap, Abv h2 B → (∀ p, h p ≠ .no → h2 p = h p) → Heavy1 P N ⟨dst, .call ⟨.value x, args, at_⟩, ty, pos, aft, g⟩ ⟨t, h2⟩ r' (over B h2 h')) ∧ over B h h' = h' := by
  refine ⟨hB, fun h2 hB2 he => ?_, ?_⟩
  · rw [hb.eq_, ← births_over hB hB2]
    exact (st_callV B ((evA_h x h).trans hx) (by rw [evL_h args.toList h]; exact ha.ext he) hF hfl hfs hB2 hr (birR_of hs B h2)).1
  · rw [hb.eq_, ← births_over hB hB]
inductive ResR (T : Tab) (N : Nat) (σ : AS) : List ResultVar → List AV → Prop
  | nil : ResR T N σ [] []
  | tmp {u : Tmp} {a : AV} {rs : List ResultVar} {as : List AV} (h : evA N σ (.tmp u) = a) (k : ResR T N σ rs as) : ResR T N σ (.tmp u :: rs) (a :: as)
  | cell1 {u : Tmp} {ty : TypeId} {ti : TI} {k f n ix j : Nat} {o : AObj} {cells : List AV} {c : AV} {rs : List ResultVar} {as : List AV} (hx : evA N σ (.tmp u) = .ptr k f n ix j) (h1 : T ty = some ti) (h2 : isRow ti.desc = false) (ho : lv σ.h k f = some o) (hn : o.cs.len = n)
      (hi : o.cs.get ix = some cells) (hc : cells[j]? = some c) (q : ResR T N σ rs as) : ResR T N σ (.cell u ty :: rs) (c :: as)
  | cellN {u : Tmp} {ty : TypeId} {ti : TI} {k f n ix j : Nat} {o : AObj} {cells out : List AV} {rs : List ResultVar} {as : List AV} (hx : evA N σ (.tmp u) = .ptr k f n ix j) (h1 : T ty = some ti) (h2 : isRow ti.desc = true) (ho : lv σ.h k f = some o) (hn : o.cs.len = n)
      (hi : o.cs.get ix = some cells) (hc : Seg j ti.size cells out) (q : ResR T N σ rs as) : ResR T N σ (.cell u ty :: rs) (.agg out :: as)
def resA : List AV → AV
  | [a] => a
  | l => .tup l
def resOne (a : Act) : ResultVar → Sem Value
  | .tmp t => pure (a.tmps.getD t undef)
  | .cell p t => do loadVar t (← asAddr (a.tmps.getD p undef))
theorem ResR.run (hT : TOk P T) {σ : AS} {rs : List ResultVar} {as : List AV} (R : ResR T N σ rs as) {F : Nat → Prop} {μ : Places} {a : Act} {w : World} (A : AbsF L E N F μ σ a w) :
    ∃ vs : List Value, (rs.mapM (resOne a)).run P w = .ok vs w ∧ vs.length = as.length ∧ ∀ (i : Nat) v c, vs[i]? = some v → as[i]? = some c → ARep w F μ σ.h v c := by
  have consOk : ∀ {rv : ResultVar} {rs : List ResultVar} {v : Value} {c : AV} {as : List AV}, (resOne a rv).run P w = .ok v w → ARep w F μ σ.h v c →
      (∃ vs : List Value, (rs.mapM (resOne a)).run P w = .ok vs w ∧ vs.length = as.length ∧ ∀ (i : Nat) v c, vs[i]? = some v → as[i]? = some c → ARep w F μ σ.h v c) →
      ∃ vs : List Value, ((rv :: rs).mapM (resOne a)).run P w = .ok vs w ∧ vs.length = (c :: as).length ∧ ∀ (i : Nat) v d, vs[i]? = some v → (c :: as)[i]? = some d → ARep w F μ σ.h v d := by
    rintro rv rs v c as h1 h2 ⟨vs, e1, e2, e3⟩
    refine ⟨v :: vs, by simp [List.mapM_cons, h1, e1], by simp [e2], fun i v' d h3 h4 => ?_⟩
    cases i with
    | zero => simp at h3 h4; subst h3 h4; exact h2
    | succ i => simp at h3 h4; exact e3 i v' d h3 h4
  induction R with
  | nil => exact ⟨[], by simp, rfl, fun i v c h => by simp at h⟩
  | tmp hh k ih =>
    rename_i u a' rs as
    exact consOk (v := a.tmps.getD u undef) rfl (by rw [← hh]; exact evA_rep A (.tmp _)) ih
  | cell1 hx h1 h2 ho hn hi hc q ih =>
    rename_i u0 ty ti k f n ix j o cells c rs as
    have hr := evA_rep A (.tmp u0)
    rw [hx] at hr
    obtain ⟨b, cur, hv, hm, hb, hlen, hcs⟩ := ptr_at A.H hr ho hn hi
    obtain ⟨u, hu, hr2⟩ := hcs _ _ hc
    have hcell := (cell_of_row w b _ cur _ (0, 0) hb).trans hu
    refine consOk ?_ hr2 ih
    have hv' : a.tmps.getD u0 undef = .pointer (some ⟨b, ix * o.sz + j, none⟩) := hv
    simp only [resOne, hv', asAddr, loadVar]
    simp [Sem.run_bind, run_isAgg hT h1, h2, hcell]
  | cellN hx h1 h2 ho hn hi hc q ih =>
    rename_i u ty ti k f n ix j o cells out rs as
    have hr := evA_rep A (.tmp u)
    rw [hx] at hr
    obtain ⟨b, cur, hv, hm, hb, hlen, hcs⟩ := ptr_at A.H hr ho hn hi
    obtain ⟨s1, s2, s3⟩ := hc.spec
    have hall : ∀ q, q < ti.size → ∃ u, cur[ix * o.sz + j + q]? = some u ∧ ∀ c, out[q]? = some c → ARep w F μ σ.h u c := fun q hq => by
      obtain ⟨u, hu, hr2⟩ := hcs (j + q) _ (s3 q _ (List.getElem?_eq_getElem (show q < out.length by omega)))
      exact ⟨u, by rw [Nat.add_assoc]; exact hu, fun c hc => by rw [List.getElem?_eq_getElem (show q < out.length by omega)] at hc; injection hc with hc; rw [← hc]; exact hr2⟩
    obtain ⟨v1, v2⟩ := cut_list cur (ix * o.sz + j) ti.size fun q hq => by obtain ⟨u, hu, _⟩ := hall q hq; exact ⟨u, hu⟩
    have hrun := run_loadN (P := P) hT h1 h2 w b (ix * o.sz + j) ((cur.toList.drop (ix * o.sz + j)).take ti.size) v1 (fun q v hq => by
      rw [cell_of_row w b _ cur o.ty (0, 0) hb]
      exact (v2 q v hq).2)
    have hv' : a.tmps.getD u undef = .pointer (some ⟨b, ix * o.sz + j, none⟩) := hv
    refine consOk (v := .agg ((cur.toList.drop (ix * o.sz + j)).take ti.size).toArray) ?_ (.agg _ out (by simp only [List.size_toArray]; omega) fun q v c hq hc => ?_) ih
    · simp only [resOne, hv', asAddr]
      have := hrun
      simp only [Instr.loadAt, Instr.sureAddr] at this
      exact this
    · have hq' : ((cur.toList.drop (ix * o.sz + j)).take ti.size)[q]? = some v := by simpa using hq
      obtain ⟨hlt, hcur⟩ := v2 q v hq'
      obtain ⟨u, hu, hr2⟩ := hall q hlt
      rw [hcur] at hu
      injection hu with hu
      rw [hu]
      exact hr2 c hc
theorem results_run (hT : TOk P T) {fn : Func} {σ : AS} {rs : List ResultVar} {as : List AV} (hrs : fn.results.toList = rs) (R : ResR T N σ rs as) {F : Nat → Prop} {μ : Places} {a : Act} {w : World} (A : AbsF L E N F μ σ a w) : ∃ v, (results fn a.tmps).run P w = .ok v w ∧ ARep w F μ σ.h v (resA as) := by
  obtain ⟨vs, e1, e2, e3⟩ := R.run hT A
  have hm : (fn.results.mapM (resOne a)).run P w = .ok vs.toArray w := by
    rw [Array.mapM_eq_mapM_toList, hrs, Sem.run_map, e1]; rfl
  have hres : (results fn a.tmps).run P w = .ok (if h : vs.toArray.size = 1 then vs.toArray[0] else .tuple vs.toArray) w := by
    have e : results fn a.tmps = fn.results.mapM (resOne a) >>= fun vs => pure (if h : vs.size = 1 then vs[0] else .tuple vs) := by
      unfold results
      congr 1
    rw [e, Sem.run_bind, hm]; rfl
  refine ⟨_, hres, ?_⟩
  rcases as with _ | ⟨c, _ | ⟨c2, cs⟩⟩
  · have : vs = [] := List.eq_nil_of_length_eq_zero (by simpa using e2)
    subst this
    exact .tup #[] [] rfl fun i v c h => by simp at h
  · obtain ⟨v, rfl⟩ := List.length_eq_one_iff.1 e2
    exact e3 0 v c rfl rfl
  · have hne : ¬ vs.toArray.size = 1 := by simp at e2 ⊢; omega
    rw [dif_neg hne]
    exact .tup _ _ (by simpa using e2) fun i v c h1 h2 => e3 i v c (by simpa using h1) h2
end
end Go.Proofs.YtlakbomkpnlidaaGreat
namespace Go.Proofs.YtlakbomkpnlidaaGreat
open Go.RowKit
set_option linter.unusedVariables false
set_option maxRecDepth 100000
section
variable {P : Program} {T : Tab} {L N : Nat} {ops : Array Oper} {E : Env} {F : Nat → Prop} {μ : Places} {w : World} {i : Nat} {is : List Nat} {t : Nat → AV} {h h' hc : Heap} {ι : Nat → Nat}

theorem ObjRep.unren {μc : Places} (R : Ren ι μc hc μ h) {p : Option Nat} {o : AObj} (r : ObjRep w F μ h p (o.ren ι)) : ObjRep w F μc hc p o := by
  rcases r with ⟨h1, h2⟩ | ⟨b, cur, h1, h2, h3⟩
  · exact .inl ⟨h1, by simpa [AObj.ren, Cells.ren_len] using h2⟩
  · refine .inr ⟨b, cur, h1, h2, fun i cells hi => ?_⟩
    obtain ⟨q1, q2⟩ := h3 i (AV.renL ι cells) (by simp only [AObj.ren, Cells.ren_get, hi, Option.map_some])
    rw [renL_len] at q1
    refine ⟨q1, fun j c hj => ?_⟩
    obtain ⟨u, hu, hr⟩ := q2 j (c.ren ι) (by rw [renL_get, hj]; rfl)
    exact ⟨u, hu, hr.unren R c rfl⟩
theorem HInv.restrict (H : HInv E F μ h w) (hι : ∀ p q, ι p = ι q → p = q) (R : Ren ι (fun p f => μ (ι p) f) hc μ h) (hid : ∀ p, E.h0 p ≠ .no → ι p = p) : HInv E F (fun p f => μ (ι p) f) hc w := by
  have up : ∀ {p f o}, lv hc p f = some o → lv h (ι p) f = some (o.ren ι) := fun hl => by rw [R.lv_, hl]; rfl
  refine ⟨fun k f o hl => (H.ob _ _ _ (up hl)).unren R, fun k f o k' f' o' b h1 h2 m1 m2 => ?_, fun k f o b hl hm => H.sep _ _ _ b (up hl) hm, fun k f o b hl hm => H.src _ _ _ b (up hl) hm, H.fz, H.fsrc, ⟨H.ev.fr, H.ev.fs, fun p hp => ?_, fun p f o' hp ho' => ?_⟩, H.os, H.tape, H.output, H.size, H.keep⟩
  · obtain ⟨e1, e2⟩ := H.inj _ _ _ _ _ _ b (up h1) (up h2) m1 m2
    exact ⟨hι _ _ e1, e2⟩
  · intro e
    have h1 := (R.no_ p).2 e
    rw [hid p hp] at h1
    exact H.ev.born p hp h1
  · have h1 := up ho'
    rw [hid p hp] at h1
    obtain ⟨o, ho, hx⟩ := H.ev.live p f _ hp h1
    refine ⟨o, ho, ?_⟩
    simp only [hid p hp]
    simpa [AObj.ren, Cells.ren_len] using hx

def nameL (ks : List Nat) (B : Nat) (p : Nat) : Nat := match ks[p]? with | some k => k | none => B + p
theorem nameL_inj {ks : List Nat} {B : Nat} (hnd : ks.Nodup) (hlt : ∀ k ∈ ks, k < B) : ∀ p q, nameL ks B p = nameL ks B q → p = q := fun p q e => by
  unfold nameL at e
  cases hp : ks[p]? with
  | none =>
    cases hq : ks[q]? with
    | none => rw [hp, hq] at e; have e : B + p = B + q := e; omega
    | some k => rw [hp, hq] at e; have e : B + p = k := e; have := hlt k (List.mem_of_getElem? hq); omega
  | some k =>
    cases hq : ks[q]? with
    | none => rw [hp, hq] at e; have e : k = B + q := e; have := hlt k (List.mem_of_getElem? hp); omega
    | some k' =>
      rw [hp, hq] at e
      have e : k = k' := e
      subst e
      exact (List.getElem?_inj (List.getElem?_eq_some_iff.1 hp).1 hnd).1 (hp.trans hq.symm)
inductive AtK (ι : Nat → Nat) (h : Heap) : List Nat → List Slot → Prop
  | nil : AtK ι h [] []
  | cons {k : Nat} {s s' : Slot} {ks : List Nat} {ss : List Slot} (hs : h k = s') (hr : RenS ι s s') (q : AtK ι h ks ss) : AtK ι h (k :: ks) (s :: ss)
theorem AtK.spec {ks : List Nat} {ss : List Slot} (a : AtK ι h ks ss) : ks.length = ss.length ∧ ∀ (p : Nat) k s, ks[p]? = some k → ss[p]? = some s → h k = s.ren ι := by
  induction a with
  | nil => exact ⟨rfl, fun p k s h => by simp at h⟩
  | cons hs hr q ih =>
    refine ⟨by simp [ih.1], fun p k s h1 h2 => ?_⟩
    cases p with
    | zero => simp at h1 h2; subst h1 h2; rw [hs, hr.eq_]
    | succ p => simp at h1 h2; exact ih.2 p k s h1 h2
theorem AtK.ren_ {ks : List Nat} {B : Nat} {ss : List Slot} (a : AtK (nameL ks B) h ks ss) (hB : Abv h B) : Ren (nameL ks B) (fun p f => μ (nameL ks B p) f) (lks ss) μ h := by
  refine ⟨fun p => ?_, fun p f => rfl⟩
  obtain ⟨q1, q2⟩ := a.spec
  unfold lks
  rw [List.getD_eq_getElem?_getD]
  cases hp : ks[p]? with
  | none =>
    have : ss[p]? = none := by rw [List.getElem?_eq_none_iff] at hp ⊢; omega
    rw [this]
    have e : nameL ks B p = B + p := by unfold nameL; rw [hp]
    rw [e, hB _ (by omega)]; rfl
  | some k =>
    have hlt : p < ss.length := by have := (List.getElem?_eq_some_iff.1 hp).1; omega
    have e : nameL ks B p = k := by unfold nameL; rw [hp]
    rw [e, q2 p k _ hp (List.getElem?_eq_getElem hlt), List.getElem?_eq_getElem hlt]; rfl

structure RetOk (T : Tab) (N : Nat) (fn : Func) (m : Nat) (hout : List Slot) (r : AV) (σ : AS) : Prop where
  ex : ∃ rs as r' ks B, fn.results.toList = rs ∧ ResR T N σ rs as ∧ resA as = r' ∧ ks.Nodup ∧ (∀ k ∈ ks, k < B) ∧ (∀ p, p < m → nameL ks B p = p) ∧ Abv σ.h B ∧ AtK (nameL ks B) σ.h ks hout ∧ r' = r.ren (nameL ks B)
def retQ (T : Tab) (N : Nat) (fn : Func) (m : Nat) (hout : List Slot) (r : AV) : AExit → AS → Prop
  | .normal, σ => RetOk T N fn m hout r σ
  | .ret, σ => RetOk T N fn m hout r σ
  | _, _ => False
def argT : List AV → Nat → Nat → AV
  | [], _ => fun _ => .dead
  | a :: as, k => updA (argT as (k + 1)) k a
theorem argT_get : ∀ (as : List AV) (k p : Nat), argT as k (k + p) = as.getD p .dead
  | [], k, p => by simp [argT]
  | a :: as, k, 0 => by simp [argT, updA_same]
  | a :: as, k, p + 1 => by
    rw [argT, updA_ne _ _ (by omega), show k + (p + 1) = k + 1 + p by omega, argT_get as (k + 1) p]; simp
theorem argT_at (as : List AV) (t : Nat) : argT as 0 t = as.getD t .dead := by have := argT_get as 0 t; rwa [Nat.zero_add] at this

theorem fnc_introL (hT : TOk P T) {f : FuncId} {fn : Func} {body : Code} {hin hout : List Slot} {as : List AV} {r : AV} (hf : P.funcs[f]? = some fn) (hb : fn.body = some body) (hN : fn.ntmps = N) (hc : callB P f = true) (hl : Nat.ble as.length N = true) (hm : Nat.ble hin.length L = true)
    (hw : AW L P N body (retQ T N fn hin.length hout r) ⟨argT as 0, lks hin⟩) : FnC P f hin as hout r := by
  refine ⟨hc, fun w F μ vs gl H hs hr => ?_⟩
  have hle := Nat.le_of_ble_eq_true hl
  refine calls_of_wp hf hb (wp_mono (hw ⟨w, F, μ, lks hin, gl⟩ _ w ⟨F, μ, H, rfl, ?_, fun t ht => ?_, fun p hp => ?_⟩) fun e a w' q => ?_)
  · simp [hN]; omega
  · simp only
    rw [argT_at]
    rcases Nat.lt_or_ge t as.length with hlt | hge
    · have h1 : as.getD t .dead = as[t] := by simp [List.getD, hlt]
      have h2 : (vs ++ Array.replicate (fn.ntmps - vs.size) undef).getD t undef = vs[t]'(by omega) := by
        have : t < vs.size := by omega
        simp [Array.getElem?_append, this]
      rw [h1, h2]
      exact hr t _ _ (Array.getElem?_eq_getElem (by omega)) (List.getElem?_eq_getElem hlt)
    · have h1 : as.getD t .dead = .dead := by simp [List.getD, List.getElem?_eq_none hge]
      rw [h1]
      exact .dead _
  · have := Nat.le_of_ble_eq_true hm
    show lks hin p = .no
    unfold lks
    simp [List.getD, List.getElem?_eq_none (show hin.length ≤ p by omega)]
  · have fin : ∀ σ, Abs L ⟨w, F, μ, lks hin, gl⟩ N σ a w' → RetOk T N fn hin.length hout r σ → a.defers = [] ∧ ∃ v, (results fn a.tmps).run P w' = .ok v w' ∧
        (∃ v' F' μ', Ending.returned v = .returned v' ∧ HInv ⟨w, F, μ, lks hin, gl⟩ F' μ' (lks hout) w' ∧ ARep w' F' μ' (lks hout) v' r) := by
      rintro σ ⟨F', μ', A⟩ ⟨rs, as', r', ks, B, q1, q2, q3, q4, q5, q6, q7, q8, q9⟩
      obtain ⟨v, hv, hr⟩ := results_run hT q1 q2 A
      have R := q8.ren_ (μ := μ') q7
      refine ⟨A.df, v, hv, v, F', _, rfl, A.H.restrict (nameL_inj q4 q5) R (fun p hp => ?_), ?_⟩
      · refine q6 p ?_
        rcases Nat.lt_or_ge p hin.length with hlt | hge
        · exact hlt
        · exfalso
          apply hp
          show lks hin p = .no
          unfold lks
          simp [List.getD, List.getElem?_eq_none hge]
      · rw [q3] at hr
        exact hr.unren R r q9
    cases e with
    | normal => obtain ⟨σ, A, q⟩ := q; exact fin σ A q
    | ret => obtain ⟨σ, A, q⟩ := q; exact fin σ A q
    | exit i => obtain ⟨σ, A, q⟩ := q; exact q.elim
    | goto l => obtain ⟨σ, A, q⟩ := q; exact q.elim
    | panic c => exact q.elim
    | outgrown => exact q.elim

theorem fnc_intro (hT : TOk P T) {f : FuncId} {fn : Func} {body : Code} {hin hout : List Slot} {as : List AV} {r : AV} (hf : P.funcs[f]? = some fn) (hb : fn.body = some body) (hN : fn.ntmps = N) (hc : callB P f = true) (hl : Nat.ble as.length N = true) (hm : Nat.ble hin.length 3 = true)
    (hw : AW 3 P N body (retQ T N fn hin.length hout r) ⟨argT as 0, lks hin⟩) : FnC P f hin as hout r := fnc_introL (L := 3) hT hf hb hN hc hl hm hw
theorem abv_lks {ss : List Slot} {B : Nat} (hl : Nat.ble ss.length B = true) : Abv (lks ss) B := fun k hk => by
  have := Nat.le_of_ble_eq_true hl
  unfold lks
  simp [List.getD, List.getElem?_eq_none (show ss.length ≤ k by omega)]
mutual
theorem ren_free {ι : Nat → Nat} : ∀ {a : AV}, a.free = true → a.ren ι = a
  | .d _, _ => rfl
  | .agg cs, h => by rw [AV.ren, renL_free (by simpa [AV.free] using h)]
  | .tup cs, h => by rw [AV.ren, renL_free (by simpa [AV.free] using h)]
  | .ref _, _ => rfl
  | .ptr .., h => by simp [AV.free] at h
  | .own .., h => by simp [AV.free] at h
  | .fn _ cs, h => by rw [AV.ren, renL_free (by simpa [AV.free] using h)]
  | .dead, _ => rfl
theorem renL_free {ι : Nat → Nat} : ∀ {l : List AV}, AV.freeL l = true → AV.renL ι l = l
  | [], _ => rfl
  | c :: cs, h => by
    simp [AV.freeL] at h
    rw [AV.renL, ren_free h.1, renL_free h.2]
end
theorem ret0 {fn : Func} {rs : List ResultVar} {as : List AV} {r : AV} (B : Nat) (hrs : fn.results.toList = rs) (R : ResR T N ⟨t, h⟩ rs as) (hB : Abv h B) (hf : r.free = true) (e : resA as = r) : RetOk T N fn 0 [] r ⟨t, h⟩ :=
  ⟨rs, as, r, [], B, hrs, R, e, .nil, fun k hk => (by cases hk), fun p hp => absurd hp (Nat.not_lt_zero p), hB, .nil, (ren_free hf).symm⟩
theorem retK {fn : Func} {rs : List ResultVar} {as : List AV} {r : AV} {hout : List Slot} (ks : List Nat) (B : Nat) (hrs : fn.results.toList = rs) (R : ResR T N ⟨t, h⟩ rs as) (hB : Abv h B) (hnd : ks.Nodup) (hlt : ∀ k ∈ ks, k < B) (hk : AtK (nameL ks B) h ks hout) (e : resA as = r.ren (nameL ks B)) : RetOk T N fn 0 hout r ⟨t, h⟩ :=
  ⟨rs, as, _, ks, B, hrs, R, rfl, hnd, hlt, fun p hp => absurd hp (Nat.not_lt_zero p), hB, hk, e⟩
variable {c : Code} {Q : AExit → AS → Prop}
theorem RenR.of_own {ι : Nat → Nat} {k k' f n n' : Nat} (e : n = n') (h : ι k = k') : RenR ι (.own k f n) (.own k' f n') := by subst e; exact .own _ _ _ _ h
inductive WT (ι : Nat → Nat) (s : Nat → AV) : (Nat → AV) → Prop
  | nil : WT ι s fun _ => .dead
  | upd {t : Nat → AV} {d : Nat} {r r' : AV} (h : s d = r') (hr : r' = r.ren ι) (k : WT ι s t) : WT ι s (updA t d r)
theorem WT.spec {s t : Nat → AV} (wt : WT ι s t) (d : Nat) : s d = (t d).ren ι ∨ t d = .dead := by
  induction wt with
  | nil => exact .inr rfl
  | upd h hr k ih =>
    rename_i t d' r r'
    by_cases e : d = d'
    · subst e; rw [updA_same, h, hr]; exact .inl rfl
    · rw [updA_ne _ _ e]; exact ih
theorem WT.ren_ {s t : Nat → AV} {d : Nat} {r r' : AV} (h : s d = r') (hr : RenR ι r r') (k : WT ι s t) : WT ι s (updA t d r) := .upd h hr.eq_ k
theorem WT.free_ {s t : Nat → AV} {d : Nat} {r : AV} (hf : r.free = true) (h : s d = r) (k : WT ι s t) : WT ι s (updA t d r) := .upd h (ren_free hf).symm k
inductive WH (ι : Nat → Nat) (h : Heap) : Nat → List Slot → Prop
  | nil (k : Nat) : WH ι h k []
  | cons {k : Nat} {s s' : Slot} {ss : List Slot} (hs : h k = s') (hr : RenS ι s s') (q : WH ι h (k + 1) ss) : WH ι h k (s :: ss)
theorem WH.spec {k : Nat} {ss : List Slot} (wh : WH ι h k ss) : ∀ (p : Nat) s, ss[p]? = some s → h (k + p) = s.ren ι := by
  induction wh with
  | nil k => intro p s h; simp at h
  | cons hs hr q ih =>
    intro p s hp
    cases p with
    | zero => simp at hp; subst hp; rw [Nat.add_zero, hs, hr.eq_]
    | succ p => simp at hp; have := ih p s hp; rw [show ∀ k : Nat, k + (p + 1) = k + 1 + p by omega]; exact this
theorem WH.data_ {k : Nat} {ty : TypeId} {sz : Nat} {es : List (List DV)} {ss : List Slot} (hs : h k = .live [⟨ty, sz, .data es⟩]) (q : WH ι h (k + 1) ss) : WH ι h k (.live [⟨ty, sz, .data es⟩] :: ss) := .cons hs (.data _ _ _) q
theorem AtK.data_ {k : Nat} {ty : TypeId} {sz : Nat} {es : List (List DV)} {ks : List Nat} {ss : List Slot} (hs : h k = .live [⟨ty, sz, .data es⟩]) (q : AtK ι h ks ss) : AtK ι h (k :: ks) (.live [⟨ty, sz, .data es⟩] :: ss) := .cons hs (.data _ _ _) q
theorem weak_adopt_t (k : Nat) (hk : h k = .no) (et : TypeId) (esz : Nat) {d : Nat} (hd : t d = .d (.v (.slice none 0 0))) :
    Weak L N ⟨t, h⟩ ⟨updA t d (.own k 0 0), upd h k (.live [⟨et, esz, .data []⟩])⟩ := by
  rintro E a w ⟨F, μ, A⟩
  obtain ⟨H1, V1⟩ := A.H.adopt k hk ⟨et, esz, .data []⟩ rfl
  refine ⟨F, _, H1, A.df, A.sz, fun d' hd' => ?_, A.lim⟩
  · by_cases e : d' = d
    · subst e
      have h1 := A.tm d' hd'
      dsimp only at h1 ⊢
      rw [hd] at h1
      have h6 := rep_v h1
      rw [h6, updA_same]
      refine .own _ _ _ _ rfl (by rw [upd_same]; intro e; cases e) fun o ho => ?_
      rw [lv_upd_same] at ho
      simp at ho
      subst ho
      exact ⟨Nat.le_refl _, fun _ => .inl ⟨updP_same _ _ _ _, rfl, rfl⟩⟩
    · dsimp only; rw [updA_ne _ _ e]
      exact (A.tm d' hd').evo V1
theorem weak_adopt (k : Nat) (hk : h k = .no) (et : TypeId) (esz : Nat) {kb : Nat} {bt : TypeId} {sz j : Nat} {cells cells' : List AV} (hb : h kb = .live [⟨bt, sz, .av [cells]⟩]) (hj : cells[j]? = some (.d (.v (.slice none 0 0)))) (hs : Spl j [.own k 0 0] cells cells') :
    Weak L N ⟨t, h⟩ ⟨t, upd (upd h k (.live [⟨et, esz, .data []⟩])) kb (.live [⟨bt, sz, .av [cells']⟩])⟩ := by
  rintro E a w ⟨F, μ, A⟩
  obtain ⟨H1, V1⟩ := A.H.adopt k hk ⟨et, esz, .data []⟩ rfl
  have hkb : kb ≠ k := fun e => by rw [e, hk] at hb; cases hb
  have hb1 : upd h k (.live [⟨et, esz, .data []⟩]) kb = .live [⟨bt, sz, .av [cells]⟩] := by rw [upd_ne _ _ hkb]; exact hb
  obtain ⟨s1, s2, s3, s4⟩ := hs.spec
  have hl1 : lv (upd h k (.live [⟨et, esz, .data []⟩])) kb 0 = some ⟨bt, sz, .av [cells]⟩ := by rw [lv_live hb1]; rfl
  obtain ⟨b, cur, hm, hcur, hat⟩ := own_at H1 hl1 (by simp [Cells.len])
  obtain ⟨c1, c2⟩ := hat 0 cells rfl
  have hcurlt : b < w.heap.size := (Array.getElem?_eq_some_iff.1 hcur).1
  obtain ⟨H2, V2⟩ := H1.put (w' := w) hb1 (f := 0) rfl (o' := ⟨bt, sz, .av [cells']⟩) b cur (Nat.le_refl _) rfl rfl rfl (fun _ _ _ => rfl) (.inl hm) hcurlt hcur (.inr ⟨rfl, rfl, rfl, hm, fun cur2 h2 => by rw [hcur] at h2; injection h2 with h2; injection h2 with h2; rw [h2]⟩) (fun i cl hcl => by
    cases i with
    | succ i => simp [Cells.get] at hcl
    | zero =>
      simp only [Cells.get, List.getElem?_cons_zero, Option.some.injEq] at hcl
      subst hcl
      refine ⟨s1.trans c1, fun j' x hx => ?_⟩
      by_cases e : j' = j
      · subst e
        obtain ⟨u, hu, hr⟩ := c2 j' _ hj
        refine ⟨u, hu, ?_⟩
        have h5 := s4 0 (by simp)
        rw [Nat.add_zero, hx] at h5
        simp at h5
        subst h5
        have h6 := rep_v hr
        subst h6
        refine .own _ _ _ _ rfl (by rw [upd_same]; intro e; cases e) fun o ho => ?_
        rw [lv_upd_same] at ho
        simp at ho
        subst ho
        exact ⟨Nat.le_refl _, fun _ => .inl ⟨updP_same _ _ _ _, rfl, rfl⟩⟩
      · rw [s3 j' (by simp; omega)] at hx
        exact c2 j' x hx)
  refine ⟨F, _, H2, A.df, A.sz, fun d hd => ?_, A.lim⟩
  exact ((A.tm d hd).evo V1).evo V2
end
end Go.Proofs.YtlakbomkpnlidaaGreat
namespace Go.Proofs.YtlakbomkpnlidaaGreat
open Go.RowKit
set_option linter.unusedVariables false
set_option maxRecDepth 100000
theorem map_at {α β : Type} {f : α → β} {xs : List α} {k : Nat} {x : α} (h : xs[k]? = some x) : (xs.map f)[k]? = some (f x) := by simp [h]
section
variable {P : Program} {T : Tab} {L N : Nat} {ops : Array Oper} {E : Env} {F : Nat → Prop} {μ : Places} {w : World} {i : Nat} {is : List Nat} {t : Nat → AV} {h h' hc : Heap} {ι : Nat → Nat} {d : Tmp} {dst : Option Tmp} {op : Op} {ty : TypeId} {pos : String} {aft : Array Edge} {g : Option (Nat × Bool)}

inductive UpdR (ι : Nat → Nat) : Heap → List Nat → List Slot → Heap → Prop
  | nil (h : Heap) : UpdR ι h [] [] h
  | cons {h h' : Heap} {k : Nat} {s s' : Slot} {ks : List Nat} {ss : List Slot} (hs : RenS ι s s') (q : UpdR ι (upd h k s') ks ss h') : UpdR ι h (k :: ks) (s :: ss) h'
theorem UpdR.other {ks : List Nat} {ss : List Slot} (u : UpdR ι h ks ss h') (k : Nat) (hk : k ∉ ks) : h' k = h k := by
  induction u with
  | nil => rfl
  | cons hs q ih =>
    simp only [List.mem_cons, not_or] at hk
    rw [ih hk.2, upd_ne _ _ hk.1]
theorem UpdR.at_ {ks : List Nat} {ss : List Slot} (u : UpdR ι h ks ss h') (hnd : ks.Nodup) : ks.length = ss.length ∧ ∀ (p : Nat) k s, ks[p]? = some k → ss[p]? = some s → h' k = s.ren ι := by
  induction u with
  | nil => exact ⟨rfl, fun p k s h => by simp at h⟩
  | cons hs q ih =>
    obtain ⟨h1, h2⟩ := List.nodup_cons.1 hnd
    obtain ⟨a1, a2⟩ := ih h2
    refine ⟨by simp [a1], fun p k s hp1 hp2 => ?_⟩
    cases p with
    | zero => simp at hp1 hp2; subst hp1 hp2; rw [q.other _ h1, upd_same, hs.eq_]
    | succ p => simp at hp1 hp2; exact a2 p k s hp1 hp2
theorem HInv.hand {gl : Glob F w} (H : HInv E F μ h w) (hι : ∀ p q, ι p = ι q → p = q) (R : Ren ι (fun p f => μ (ι p) f) hc μ h) : HInv ⟨w, F, fun p f => μ (ι p) f, hc, gl⟩ F (fun p f => μ (ι p) f) hc w := by
  have up : ∀ {p f o}, lv hc p f = some o → lv h (ι p) f = some (o.ren ι) := fun hl => by rw [R.lv_, hl]; rfl
  refine ⟨fun k f o hl => (H.ob _ _ _ (up hl)).unren R, fun k f o k' f' o' b h1 h2 m1 m2 => ?_, fun k f o b hl hm => H.sep _ _ _ b (up hl) hm, fun k f o b hl hm => .inl ⟨k, f, o, hl, hm⟩, H.fz, fun b hb => .inl hb, Evo.refl_, rfl, rfl, rfl, Nat.le_refl _, fun _ _ _ => rfl⟩
  obtain ⟨e1, e2⟩ := H.inj _ _ _ _ _ _ b (up h1) (up h2) m1 m2
  exact ⟨hι _ _ e1, e2⟩
theorem RenRL.get {as bs : List AV} (r : RenRL ι as bs) : bs = AV.renL ι as := r.eq_
open Classical in
theorem wr_callP (ks : List Nat) (B : Nat) {f : FuncId} {x : Operand} {args : Array Operand} {at_ : Array TypeId} {caps as as' : List AV} {hin hout : List Slot} {r r' : AV} (hx : evA N ⟨t, h⟩ x = .fn f caps) (ha : evL N ⟨t, h⟩ args.toList ++ caps = as') (har : RenRL (nameL ks B) as as') (hF : FnC P f hin as hout r)
    (hB : Abv h B) (hnd : ks.Nodup) (hlt : ∀ k ∈ ks, k < B) (hk : AtK (nameL ks B) h ks hin) (hb : UpdR (nameL ks B) h ks hout h') (hr : RenR (nameL ks B) r r') : Heavy1 P N ⟨dst, .call ⟨.value x, args, at_⟩, ty, pos, aft, g⟩ ⟨t, h⟩ r' h' := fun E F μ w ρ H st => by
  obtain ⟨cap, c1, c2, c3⟩ := args_rep st hx
  rw [call_run hF.c c1]
  rw [ha] at c2 c3
  have R := hk.ren_ (μ := μ) hB
  have inj := nameL_inj hnd hlt
  refine (hF.g w F (fun p f => μ (nameL ks B p) f) _ H.glob (H.hand inj R) (by rw [c2, har.eq_, renL_len]) fun i v a h1 h2 => ?_).mono ?_
  · have h3 : as'[i]? = some (a.ren (nameL ks B)) := by rw [har.eq_, renL_get, h2]; rfl
    exact (c3 i v _ h1 h3).unren R a rfl
  · rintro e w' ⟨v, F', μ1, rfl, H1, hv⟩
    obtain ⟨u1, u2⟩ := hb.at_ hnd
    have inks : ∀ p, p < ks.length → nameL ks B p ∈ ks := fun p hp => by
      have : nameL ks B p = ks[p] := by unfold nameL; rw [List.getElem?_eq_getElem hp]
      rw [this]; exact List.getElem_mem hp
    have hi : ∀ p, ks.length ≤ p → nameL ks B p = B + p := fun p hp => by unfold nameL; rw [List.getElem?_eq_none hp]
    have R1 : Ren (nameL ks B) μ1 (lks hout) (fun k f => if ∃ p, k = nameL ks B p then μ1 (if hk : ∃ p, k = nameL ks B p then hk.choose else 0) f else μ k f) h' := by
      refine ⟨fun p => ?_, fun p f => ?_⟩
      · unfold lks
        rw [List.getD_eq_getElem?_getD]
        rcases Nat.lt_or_ge p ks.length with hp | hp
        · have e1 : nameL ks B p = ks[p] := by unfold nameL; rw [List.getElem?_eq_getElem hp]
          rw [e1, u2 p _ _ (List.getElem?_eq_getElem hp) (List.getElem?_eq_getElem (show p < hout.length by omega)), List.getElem?_eq_getElem (show p < hout.length by omega)]; rfl
        · rw [hi p hp, hb.other _ (fun hm => by have := hlt _ hm; omega), hB _ (by omega), List.getElem?_eq_none (show hout.length ≤ p by omega)]; rfl
      · have hex : ∃ q, nameL ks B p = nameL ks B q := ⟨p, rfl⟩
        rw [if_pos hex, dif_pos hex, inj _ _ hex.choose_spec.symm]
    have hoth : ∀ k, (∀ p, k ≠ nameL ks B p) → h' k = h k := fun k hk => hb.other k fun hm => by
      obtain ⟨p, hp, e⟩ := List.mem_iff_getElem.1 hm
      refine hk p ?_
      unfold nameL
      rw [List.getElem?_eq_getElem hp, e]
    obtain ⟨J1, J2⟩ := H.join inj R H1 R1 (fun k hk => ⟨hoth k hk, fun f => by rw [if_neg (fun ⟨p, hp⟩ => hk p hp)]⟩)
    exact ⟨v, rfl, F', _, J1, J2, by rw [hr.eq_]; exact hv.ren R1⟩

theorem retP {fn : Func} {rs : List ResultVar} {as : List AV} {r : AV} {hout : List Slot} (m B : Nat) (hm : Nat.beq hout.length m = true) (hrs : fn.results.toList = rs) (R : ResR T N ⟨t, h⟩ rs as) (hB : Abv h B) (hlt : Nat.blt m B = true) (hk : AtK (nameL (List.range m) B) h (List.range m) hout) (e : resA as = r.ren (nameL (List.range m) B)) : RetOk T N fn m hout r ⟨t, h⟩ := by
  have hml := blt_lt hlt
  refine ⟨rs, as, _, List.range m, B, hrs, R, rfl, List.nodup_range, fun k hk => ?_, fun p hp => ?_, hB, hk, e⟩
  · have := List.mem_range.1 hk; omega
  · unfold nameL; rw [List.getElem?_range hp]

section ints
variable {xt yt : TypeId} {x y : Operand}
theorem pu_cat {a b : ByteArray} (hx : evA N ⟨t, h⟩ x = .d (.v (.string a))) (hy : evA N ⟨t, h⟩ y = .d (.v (.string b))) (hs : a.size + b.size ≤ 9223372036854775807) : Pure1 P N ⟨some d, .binOp .add xt x y yt, ty, pos, aft, g⟩ ⟨t, h⟩ (.d (.v (.string (a ++ b)))) :=
  pu_bin (by rw [hx]; rfl) (by rw [hy]; rfl) fun w => by
    have : ¬ (9223372036854775807 : Int) < (a.size : Int) + (b.size : Int) := by omega
    simp [eqGuard, binOp, Op.stringOp, this]
theorem bytes_eq (a b : ByteArray) : (a.toList == b.toList) = decide (a = b) := by
  by_cases e : a = b
  · subst e; simp
  · rw [decide_eq_false e, beq_eq_false_iff_ne]
    rw [ByteArray.toList_eq, ByteArray.toList_eq]
    intro h
    apply e
    cases a; cases b; simp at h; simp [h]
theorem bytes_inj (a b : ByteArray) : (a.toList = b.toList) = (a = b) := by
  apply propext
  constructor
  · intro e
    have := bytes_eq a b
    rw [e] at this
    simpa using this.symm
  · intro e; rw [e]
theorem pu_seql {a b : ByteArray} (hx : evA N ⟨t, h⟩ x = .d (.v (.string a))) (hy : evA N ⟨t, h⟩ y = .d (.v (.string b))) : Pure1 P N ⟨some d, .binOp .eql xt x y yt, ty, pos, aft, g⟩ ⟨t, h⟩ (.d (.v (.bool (decide (a = b))))) :=
  pu_bin (by rw [hx]; rfl) (by rw [hy]; rfl) fun w => by simp [eqGuard, binOp, Op.stringOp, bytes_eq]
theorem pu_sneq {a b : ByteArray} (hx : evA N ⟨t, h⟩ x = .d (.v (.string a))) (hy : evA N ⟨t, h⟩ y = .d (.v (.string b))) : Pure1 P N ⟨some d, .binOp .neq xt x y yt, ty, pos, aft, g⟩ ⟨t, h⟩ (.d (.v (.bool (decide (a ≠ b))))) :=
  pu_bin (by rw [hx]; rfl) (by rw [hy]; rfl) fun w => by simp [eqGuard, binOp, Op.stringOp, bytes_eq]
theorem pu_beql (hT : TOk P T) {a b : Bool} {ti : TI} (hx : evA N ⟨t, h⟩ x = .d (.v (.bool a))) (hy : evA N ⟨t, h⟩ y = .d (.v (.bool b))) (h1 : T xt = some ti) (h2 : ti.desc = .bool) : Pure1 P N ⟨some d, .binOp .eql xt x y yt, ty, pos, aft, g⟩ ⟨t, h⟩ (.d (.v (.bool (a == b)))) :=
  pu_bin (by rw [hx]; rfl) (by rw [hy]; rfl) fun w => by
    have hu := (hT _ _ h1).1
    rw [h2] at hu
    have e : ∀ n, (Op.equalIn (n + 1) xt (.bool a) (.bool b)).run P w = .ok (a == b) w := fun n => by simp [Op.equalIn, run_underlying hu]
    have e2 : (Op.equal xt (.bool a) (.bool b)).run P w = .ok (a == b) w := e 9999
    simp [eqGuard, binOp, e2]
theorem pu_bneq (hT : TOk P T) {a b : Bool} {ti : TI} (hx : evA N ⟨t, h⟩ x = .d (.v (.bool a))) (hy : evA N ⟨t, h⟩ y = .d (.v (.bool b))) (h1 : T xt = some ti) (h2 : ti.desc = .bool) : Pure1 P N ⟨some d, .binOp .neq xt x y yt, ty, pos, aft, g⟩ ⟨t, h⟩ (.d (.v (.bool (a != b)))) :=
  pu_bin (by rw [hx]; rfl) (by rw [hy]; rfl) fun w => by
    have hu := (hT _ _ h1).1
    rw [h2] at hu
    have e : ∀ n, (Op.equalIn (n + 1) xt (.bool a) (.bool b)).run P w = .ok (a == b) w := fun n => by simp [Op.equalIn, run_underlying hu]
    have e2 : (Op.equal xt (.bool a) (.bool b)).run P w = .ok (a == b) w := e 9999
    simp [eqGuard, binOp, e2, bne]
theorem pu_max {k : IntKind} {a b : Int} {at_ : Array TypeId} (hx : evA N ⟨t, h⟩ x = .d (.v (.int k a))) (hy : evA N ⟨t, h⟩ y = .d (.v (.int k b))) : Pure1 P N ⟨some d, .call ⟨.builtin .max, #[x, y], at_⟩, ty, pos, aft, g⟩ ⟨t, h⟩ (.d (.v (.int k (max a b)))) := fun w F μ hh ρ st => by
  have h1 := rep_v (by have := st x (by simp [Op.operands, Call.operands]); rw [hx] at this; exact this)
  have h2 := rep_v (by have := st y (by simp [Op.operands, Call.operands]); rw [hy] at this; exact this)
  refine ⟨.int k (max a b), ?_, .d _ _ (.v _ rfl)⟩
  have : (if a < b then b else a) = max a b := by split <;> omega
  simp [execOp, resolve, invoke, builtin, h1, h2, Builtin.max_, Builtin.max2, this]
end ints

inductive Pre : List DV → List DV → Prop
  | z (l : List DV) : Pre l []
  | t {a : DV} {l r : List DV} (h : Pre l r) : Pre (a :: l) (a :: r)
theorem view_ref {cs ds : List DV} (hp : Pre cs ds) : View h (.ref cs) (.ref ds) := by
  refine .ref cs ds ?_
  induction hp with
  | z l => intro j x hx; simp at hx
  | t k ih =>
    intro j x hx
    cases j with
    | zero => exact hx
    | succ j => exact ih j x hx
inductive PreA : Nat → List AV → List DV → Prop
  | z (l : List AV) : PreA 0 l []
  | t {x : DV} {l : List AV} {r : List DV} (h : PreA 0 l r) : PreA 0 (.d x :: l) (x :: r)
  | d {o : Nat} {a : AV} {l : List AV} {r : List DV} (h : PreA o l r) : PreA (o + 1) (a :: l) r
theorem PreA.spec {o : Nat} {l : List AV} {r : List DV} (h : PreA o l r) : o + r.length ≤ l.length ∧ ∀ (t : Nat) (c : AV) (x : DV), l[o + t]? = some c → r[t]? = some x → c = .d x := by
  induction h with
  | z l => exact ⟨by simp, fun t c x _ hx => by simp at hx⟩
  | t k ih =>
    refine ⟨by simp; have := ih.1; omega, fun t c x hc hx => ?_⟩
    cases t with
    | zero => simp at hc hx; rw [← hc, hx]
    | succ t => exact ih.2 t c x (by simpa using hc) (by simpa using hx)
  | @d o a l r k ih =>
    refine ⟨by simp; have := ih.1; omega, fun t c x hc hx => ?_⟩
    rw [show o + 1 + t = o + t + 1 by omega, List.getElem?_cons_succ] at hc
    exact ih.2 t c x hc hx
theorem view_part {k j : Nat} {ty : TypeId} {sz : Nat} {cells : List AV} {ds : List DV} (hk : h k = .live [⟨ty, sz, .av [cells]⟩]) (hd : PreA j cells ds) : View h (.ptr k 0 1 0 j) (.ref ds) := by
  refine .ptr k 0 1 0 j ⟨ty, sz, .av [cells]⟩ cells ds (by rw [lv_live hk]; rfl) rfl rfl (by have := hd.spec.1; omega) fun t c x hc hx => ?_
  rw [hd.spec.2 t c x hc hx]
  exact .d x

inductive PreV (h : Heap) : Nat → List AV → List DV → Prop
  | z (l : List AV) : PreV h 0 l []
  | t {c : AV} {x : DV} {l : List AV} {r : List DV} (hv : View h c (.d x)) (k : PreV h 0 l r) : PreV h 0 (c :: l) (x :: r)
  | d {o : Nat} {a : AV} {l : List AV} {r : List DV} (k : PreV h o l r) : PreV h (o + 1) (a :: l) r
theorem PreV.spec {o : Nat} {l : List AV} {r : List DV} (q : PreV h o l r) : o + r.length ≤ l.length ∧ ∀ (t : Nat) (c : AV) (x : DV), l[o + t]? = some c → r[t]? = some x → View h c (.d x) := by
  induction q with
  | z l => exact ⟨by simp, fun t c x _ hx => by simp at hx⟩
  | t hv k ih =>
    refine ⟨by simp; have := ih.1; omega, fun t c x hc hx => ?_⟩
    cases t with
    | zero => simp at hc hx; rw [← hc, ← hx]; exact hv
    | succ t => exact ih.2 t c x (by simpa using hc) (by simpa using hx)
  | @d o a l r k ih =>
    refine ⟨by simp; have := ih.1; omega, fun t c x hc hx => ?_⟩
    rw [show o + 1 + t = o + t + 1 by omega, List.getElem?_cons_succ] at hc
    exact ih.2 t c x hc hx
theorem view_partV {k j : Nat} {ty : TypeId} {sz : Nat} {cells : List AV} {ds : List DV} (hk : h k = .live [⟨ty, sz, .av [cells]⟩]) (hd : PreV h j cells ds) : View h (.ptr k 0 1 0 j) (.ref ds) := by
  refine .ptr k 0 1 0 j ⟨ty, sz, .av [cells]⟩ cells ds (by rw [lv_live hk]; rfl) rfl rfl (by have := hd.spec.1; omega) fun t c x hc hx => ?_
  exact hd.spec.2 t c x hc hx

theorem calls_of {f : FuncId} {as : List AV} {hs : List Slot} {b : Value} (hF : FnC P f [] as hs (.d (.v b))) (W : World) (vs : Array Value) (hl : vs.size = as.length) (hr : ∀ (i : Nat) v a, vs[i]? = some v → as[i]? = some a → ARep W (fun b => b < W.heap.size) (fun _ _ => none) (lks []) v a)  (hgl : Glob (fun b => b < W.heap.size) W := by intro x hx; simp [globs] at hx) :
    Calls P f vs W fun e w' => e = .returned b ∧ Below W.heap.size W w' := by
  refine (hF.g W (fun b => b < W.heap.size) (fun _ _ => none) vs hgl (HInv.start fun b hb => hb) hl hr).mono ?_
  rintro e w' ⟨v, F', μ', rfl, H, hv⟩
  rw [rep_v hv]
  exact ⟨rfl, H.os, H.tape, H.output, H.size, fun b hb => H.keep b hb fun ⟨k, f, o, hl, _⟩ => by simp [lv, lks] at hl⟩
end
end Go.Proofs.YtlakbomkpnlidaaGreat
namespace Go.Proofs.YtlakbomkpnlidaaGreat
open Go.RowKit
set_option linter.unusedVariables false
set_option maxRecDepth 100000
section
variable {P : Program}
end
end Go.Proofs.YtlakbomkpnlidaaGreat
namespace Go.Proofs.YtlakbomkpnlidaaGreat
open Go.RowKit
set_option linter.unusedVariables false
set_option maxRecDepth 100000

def atI {α : Type} (xs : List α) (i : Int) : Option α := if 0 ≤ i then xs[i.toNat]? else none
def chk {α : Type} (b : Prop) [Decidable b] (k : Option α) : Option α := if b then k else none
def w64 (x : Int) : Int := IntKind.i64.wrap x
theorem w64_in {x : Int} (h0 : -9223372036854775808 ≤ x) (h1 : x ≤ 9223372036854775807) : w64 x = x := ewrap h0 h1
def fuel : Nat := 1180591620717411303424
def loopN {S X : Type} (step : S → Option (S ⊕ X)) : Nat → S → Option X
  | 0, _ => none
  | n + 1, s => match step s with
    | none => none
    | some (.inl s') => loopN step n s'
    | some (.inr x) => some x
def loopM {S X : Type} (step : S → Option (S ⊕ X)) (s : S) : Option X := loopN step fuel s
def orE {V Z : Type} (x : V ⊕ Z) (f : V → Option Z) : Option Z := match x with
  | .inl v => f v
  | .inr z => some z
theorem bnd {α β : Type} {x : Option α} {f : α → Option β} {r : β} (h : x.bind f = some r) : ∃ y, x = some y ∧ f y = some r := by
  cases x with
  | none => cases h
  | some y => exact ⟨y, rfl, h⟩
theorem chk_e {α : Type} {b : Prop} [Decidable b] {k : Option α} {r : α} (h : chk b k = some r) : b ∧ k = some r := by
  unfold chk at h
  split at h
  · exact ⟨by assumption, h⟩
  · cases h
theorem chk_t {α : Type} {b : Prop} [Decidable b] {k : Option α} (h : b) : chk b k = k := if_pos h
theorem atI_e {α : Type} {xs : List α} {i : Int} {e : α} (h : atI xs i = some e) : i = (i.toNat : Int) ∧ xs[i.toNat]? = some e ∧ i.toNat < xs.length := by
  unfold atI at h
  split at h
  · exact ⟨by omega, h, (List.getElem?_eq_some_iff.1 h).1⟩
  · cases h
theorem atI_nat {α : Type} {xs : List α} {k : Nat} : atI xs (k : Int) = xs[k]? := by
  unfold atI
  rw [if_pos (by omega), Int.toNat_natCast]
theorem loopM_of {S X : Type} {step : S → Option (S ⊕ X)} (I : S → Prop) (m : S → Nat) (Post : X → Prop) (hs : ∀ s, I s → (∃ s', step s = some (.inl s') ∧ I s' ∧ m s' < m s) ∨ ∃ x, step s = some (.inr x) ∧ Post x) (s0 : S) (h0 : I s0) (hm : m s0 < 1180591620717411303424) :
    ∃ x, loopM step s0 = some x ∧ Post x := by
  have key : ∀ n s, I s → m s < n → ∃ x, loopN step n s = some x ∧ Post x := by
    intro n
    induction n with
    | zero => intro s _ h; omega
    | succ n ih =>
      intro s hI hlt
      rcases hs s hI with ⟨s', h1, h2, h3⟩ | ⟨x, h1, h2⟩
      · obtain ⟨x, h4, h5⟩ := ih s' h2 (by omega)
        exact ⟨x, by simp only [loopN, h1]; exact h4, h5⟩
      · exact ⟨x, by simp only [loopN, h1], h2⟩
  exact key fuel s0 h0 hm
theorem loopM_eq {S X : Type} {step : S → Option (S ⊕ X)} {x : X} (I : S → Prop) (m : S → Nat) (hs : ∀ s, I s → (∃ s', step s = some (.inl s') ∧ I s' ∧ m s' < m s) ∨ step s = some (.inr x)) {s0 : S} (h0 : I s0) (hm : m s0 < 1180591620717411303424) : loopM step s0 = some x := by
  obtain ⟨x', h1, rfl⟩ := loopM_of I m (fun x' => x' = x) (fun s hI => (hs s hI).imp id fun h => ⟨x, h, rfl⟩) s0 h0 hm
  exact h1

section
variable {P : Program} {T : Tab} {L N : Nat} {ops : Array Oper} {E : Env} {K : List (Nat × Cls) → AS → Prop} {i : Nat} {is : List Nat} {t : Nat → AV} {h h' : Heap} {d : Tmp} {dst : Option Tmp} {op : Op} {ty : TypeId} {pos : String} {aft : Array Edge} {g : Option (Nat × Bool)} {Q : AExit → AS → Prop} {σ : AS} {c x y : Code}

theorem aw_cut (J : AS) (h1 : AW L P N x (AThen (fun σ' => Weak L N σ' J) Q) σ) (h2 : AW L P N y Q J) : AW L P N (.seq x y) Q σ :=
  aw_seq (h1.mono fun e σ' q => by cases e <;> first | exact aw_weak q h2 | exact q)
theorem aw_cutE {V Y : Type} (v : V ⊕ Y) (J : V → AS) (h1 : AW L P N x (AThen (fun σ' => ∃ u, v = .inl u ∧ Weak L N σ' (J u)) Q) σ) (h2 : ∀ u, v = .inl u → AW L P N y Q (J u)) : AW L P N (.seq x y) Q σ :=
  aw_seq (h1.mono fun e σ' q => by
    cases e <;> first | exact q | skip
    obtain ⟨u, e, w⟩ := q
    exact aw_weak w (h2 u e))
def LoopQ {S X : Type} (L N : Nat) (St : S → AS) (y : S ⊕ X) (x : X) (Q : AExit → AS → Prop) : AExit → AS → Prop
  | .normal, σ' => ∃ s', y = .inl s' ∧ Weak L N σ' (St s')
  | e, σ' => ∃ x', y = .inr x' ∧ (x' = x → Q e σ')
theorem aw_loopM {S X : Type} {step : S → Option (S ⊕ X)} (St : S → AS) {s0 : S} {x : X} (hx : loopM step s0 = some x) (h0 : Weak L N σ (St s0)) (round : ∀ s y, step s = some y → AW L P N c (LoopQ L N St y x Q) (St s)) : AW L P N (.loop c) Q σ := by
  refine aw_loop (ι := {p : Nat × S // loopN step p.1 p.2 = some x}) (fun p => St p.1.2) (fun p => p.1.1) ⟨(fuel, s0), hx⟩ h0 fun ⟨⟨n, s⟩, hn⟩ => ?_
  cases n with
  | zero => simp [loopN] at hn
  | succ n =>
    cases hst : step s with
    | none => simp [loopN, hst] at hn
    | some y =>
      refine (round s y hst).mono fun e σ' q => ?_
      simp only [loopN, hst] at hn
      cases e with
      | normal =>
        obtain ⟨s', rfl, hw⟩ := q
        exact ⟨⟨(n, s'), hn⟩, Nat.lt_succ_self n, hw⟩
      | exit id => obtain ⟨x', rfl, k⟩ := q; exact k (by simpa using hn)
      | goto l => obtain ⟨x', rfl, k⟩ := q; exact k (by simpa using hn)
      | ret => obtain ⟨x', rfl, k⟩ := q; exact k (by simpa using hn)
theorem loop_n {S X : Type} {St : S → AS} {y : S ⊕ X} {x : X} {σ' : AS} (h : ∃ s', y = .inl s' ∧ Weak L N σ' (St s')) : LoopQ L N St y x Q .normal σ' := h
theorem loop_x {S X : Type} {St : S → AS} {y : S ⊕ X} {x : X} {σ' : AS} {j : Nat} (h : ∃ x', y = .inr x' ∧ (x' = x → Q (.exit j) σ')) : LoopQ L N St y x Q (.exit j) σ' := h
theorem loop_r {S X : Type} {St : S → AS} {y : S ⊕ X} {x : X} {σ' : AS} (h : ∃ x', y = .inr x' ∧ (x' = x → Q .ret σ')) : LoopQ L N St y x Q .ret σ' := h
theorem aw_if {α : Type} {o : Operand} {p : Prop} [Decidable p] {a b r : α} (h : (if p then a else b) = r) (hb : evA N σ o = .d (.v (.bool (decide p)))) (ht : p → a = r → AW L P N x Q σ) (hf : ¬ p → b = r → AW L P N y Q σ) : AW L P N (.cond o x y) Q σ :=
  aw_condP p hb (fun hp => ht hp (by rwa [if_pos hp] at h)) (fun hp => hf hp (by rwa [if_neg hp] at h))
theorem aw_ifB {α : Type} {o : Operand} {p : Bool} {a b r : α} (h : (if p = true then a else b) = r) (hb : evA N σ o = .d (.v (.bool p))) (ht : p = true → a = r → AW L P N x Q σ) (hf : ¬ p = true → b = r → AW L P N y Q σ) : AW L P N (.cond o x y) Q σ :=
  aw_cond p hb (fun hp => ht hp (by rwa [if_pos hp] at h)) (fun hp => hf (by simp [hp]) (by rwa [if_neg (by simp [hp])] at h))
theorem rt_if {α : Type} {u : Nat} {p : Prop} [Decidable p] {a b r : α} (hh : (if p then a else b) = r) (hb : t u = .d (.v (.bool (decide p)))) (ht : p → a = r → RT P N ops is K ⟨updA t u (.d (.v (.bool true))), h⟩) (hf : ¬ p → b = r → RT P N ops is K ⟨updA t u (.d (.v (.bool false))), h⟩) : RT P N ops is K ⟨t, h⟩ :=
  rt_boolP hb (fun hp => ht hp (by rwa [if_pos hp] at hh)) (fun hp => hf hp (by rwa [if_neg hp] at hh))
theorem rt_ifB {α : Type} {u : Nat} {p : Bool} {a b r : α} (hh : (if p = true then a else b) = r) (hb : t u = .d (.v (.bool p))) (ht : p = true → a = r → RT P N ops is K ⟨updA t u (.d (.v (.bool true))), h⟩) (hf : ¬ p = true → b = r → RT P N ops is K ⟨updA t u (.d (.v (.bool false))), h⟩) : RT P N ops is K ⟨t, h⟩ :=
  rt_bool hb (fun hp => ht hp (by rwa [if_pos hp] at hh)) (fun hp => hf (by simp [hp]) (by rwa [if_neg (by simp [hp])] at hh))
theorem w0 {o : Op} : Want N ops ⟨dst, o, ty, pos, aft, none⟩ σ := .inl rfl
theorem w1 {o : Op} {j u : Nat} {b : Bool} (hj : (ops[j]?).bind (·.dst) = some u) (ht : Nat.blt u N = true) (hb : t u = .d (.v (.bool b))) : Want N ops ⟨dst, o, ty, pos, aft, some (j, b)⟩ ⟨t, h⟩ := want_some rfl hj ht hb

theorem wk_of {t' : Nat → AV} {ss : List Slot} (ks : List Nat) (B : Nat) (hnd : ks.Nodup := by decide) (hlt : ∀ k ∈ ks, k < B := by decide) (h3 : (List.range L).all (fun p => nameL ks B p == p) = true := by decide)
    (hB : Abv h B := by repeat (first | exact abv_nil _ | exact abv_lks rfl | refine abv_upd ?_ rfl)) (wt : WT (nameL ks B) t t') (wh : AtK (nameL ks B) h ks ss) : Weak L N ⟨t, h⟩ ⟨t', lks ss⟩ := by
  rintro E a w ⟨F, μ, A⟩
  have R := wh.ren_ (μ := μ) hB
  refine ⟨F, _, A.H.restrict (nameL_inj hnd hlt) R (fun p hp => ?_), A.df, A.sz, fun d hd => ?_, A.lim⟩
  · rcases Nat.lt_or_ge p L with h1 | h1
    · have := List.all_eq_true.1 h3 p (by simpa using h1)
      simpa using this
    · exact absurd (A.lim p h1) hp
  · have hr := A.tm d hd
    rcases wt.spec d with e | e
    · have hr : ARep w F μ h (a.tmps.getD d undef) (t d) := hr
      rw [e] at hr
      exact hr.unren R (t' d) rfl
    · show ARep w F _ _ _ (t' d)
      rw [e]; exact .dead _
def RA (L : Nat) (P : Program) (N : Nat) (ops : Array Oper) (is : List Nat) (Q : AExit → AS → Prop) (σ : AS) : Prop := ∀ E a w, Abs L E N σ a w → wpOps P ops (absQ L E N Q) is a w
theorem aw_regionA {id : Nat} {is : List Nat} (his : List.range ops.size = is) (h : RA L P N ops is Q σ) : AW L P N (.region id ops false) Q σ := fun E a w A => wp_region (by rw [his]; exact h E a w A)
theorem ra_nil (h : Q .normal σ) : RA L P N ops [] Q σ := fun E a w A => by
  show wpOps P ops (absQ L E N Q) [] a w
  unfold wpOps
  exact ⟨σ, A, h⟩
theorem ra_weak {σ' : AS} (hw : Weak L N σ σ') (k : RA L P N ops is Q σ') : RA L P N ops is Q σ := fun E a w A => k E a w (hw E a w A)
theorem ra_cons {o : Oper} {cl : Cls} {σ1 : AS} (ho : ops[i]? = some o) (hs : AStep P N ops o σ cl σ1) (k : RA L P N ops is Q σ1) : RA L P N ops (i :: is) Q σ := fun E a w A => by
  simp only [wpOps, ho]
  have := hs.sound A (K := wpOps P ops (absQ L E N Q) is) (Q := absQ L E N Q) (fun a' w' A' => k E a' w' A')
  split
  · rename_i hw; rw [if_pos hw] at this; exact .inl this
  · rename_i hw; rw [if_neg hw] at this; exact this
theorem ra_one (h : RT P N ops [i] (fun _ σ' => RA L P N ops is Q σ') σ) : RA L P N ops (i :: is) Q σ := by
  obtain ⟨l, σ', e, C, hk⟩ := h
  cases C with
  | nil => simp at e
  | cons j c l o _ σ1 _ ho hs hr =>
    simp only [List.map_cons, List.cons.injEq] at e
    obtain ⟨rfl, e⟩ := e
    have : l = [] := List.map_eq_nil_iff.1 e
    subst this
    cases hr
    exact ra_cons ho hs hk
theorem rp {r : AV} (ho : ops[i]? = some ⟨some d, op, ty, pos, aft, g⟩) (hw : Want N ops ⟨some d, op, ty, pos, aft, g⟩ ⟨t, h⟩) (hd : Nat.blt d N = true) (hp : Pure1 P N ⟨some d, op, ty, pos, aft, g⟩ ⟨t, h⟩ r) (k : RA L P N ops is Q ⟨updA t d r, h⟩) : RA L P N ops (i :: is) Q ⟨t, h⟩ := ra_one (rt_p ho hw hd hp (rt_nil k))
theorem rl {r : AV} (ho : ops[i]? = some ⟨some d, op, ty, pos, aft, g⟩) (hw : Want N ops ⟨some d, op, ty, pos, aft, g⟩ ⟨t, h⟩) (hd : Nat.blt d N = true) (hp : Light1 P N ⟨some d, op, ty, pos, aft, g⟩ ⟨t, h⟩ r) (k : RA L P N ops is Q ⟨updA t d r, h⟩) : RA L P N ops (i :: is) Q ⟨t, h⟩ := ra_one (rt_l ho hw hd hp (rt_nil k))
theorem rs {r : AV} (ho : ops[i]? = some ⟨some d, op, ty, pos, aft, g⟩) (hw : Want N ops ⟨some d, op, ty, pos, aft, g⟩ ⟨t, h⟩) (hd : Nat.blt d N = true) (hp : Heavy1 P N ⟨some d, op, ty, pos, aft, g⟩ ⟨t, h⟩ r h' ∧ ∀ k, h k ≠ .no → h' k = h k) (k : RA L P N ops is Q ⟨updA t d r, h'⟩) : RA L P N ops (i :: is) Q ⟨t, h⟩ := ra_one (rt_s ho hw hd hp (rt_nil k))
theorem rw1 {r : AV} (ho : ops[i]? = some ⟨some d, op, ty, pos, aft, g⟩) (hw : Want N ops ⟨some d, op, ty, pos, aft, g⟩ ⟨t, h⟩) (hd : Nat.blt d N = true) (hp : Heavy1 P N ⟨some d, op, ty, pos, aft, g⟩ ⟨t, h⟩ r h') (k : RA L P N ops is Q ⟨updA t d r, h'⟩) : RA L P N ops (i :: is) Q ⟨t, h⟩ := ra_one (rt_w ho hw hd hp (rt_nil k))
theorem rw0 {r : AV} (ho : ops[i]? = some ⟨none, op, ty, pos, aft, g⟩) (hw : Want N ops ⟨none, op, ty, pos, aft, g⟩ ⟨t, h⟩) (hp : Heavy1 P N ⟨none, op, ty, pos, aft, g⟩ ⟨t, h⟩ r h') (k : RA L P N ops is Q ⟨t, h'⟩) : RA L P N ops (i :: is) Q ⟨t, h⟩ := ra_one (rt_w0 ho hw hp (rt_nil k))
theorem rk {j u : Nat} {want : Bool} (ho : ops[i]? = some ⟨some d, op, ty, pos, aft, some (j, want)⟩) (hj : (ops[j]?).bind (·.dst) = some u) (hu : Nat.blt u N = true) (hb : t u = .d (.v (.bool !want)) ∨ t u = .tup []) (hd : Nat.blt d N = true) (k : RA L P N ops is Q ⟨updA t d (.tup []), h⟩) : RA L P N ops (i :: is) Q ⟨t, h⟩ := ra_one (rt_skip ho hj hu hb hd (rt_nil k))
theorem ra_bool {u : Nat} {b : Bool} (hb : t u = .d (.v (.bool b))) (ht : b = true → RA L P N ops is Q ⟨updA t u (.d (.v (.bool true))), h⟩) (hf : b = false → RA L P N ops is Q ⟨updA t u (.d (.v (.bool false))), h⟩) : RA L P N ops is Q ⟨t, h⟩ := by
  have e : ∀ x, t u = x → updA t u x = t := fun x hx => by
    funext t'
    by_cases e : t' = u
    · subst e; rw [updA_same, hx]
    · rw [updA_ne _ _ e]
  cases b with
  | true => have := ht rfl; rwa [e _ hb] at this
  | false => have := hf rfl; rwa [e _ hb] at this
theorem ra_if {α : Type} {u : Nat} {p : Prop} [Decidable p] {a b r : α} (hh : (if p then a else b) = r) (hb : t u = .d (.v (.bool (decide p)))) (ht : p → a = r → RA L P N ops is Q ⟨updA t u (.d (.v (.bool true))), h⟩) (hf : ¬ p → b = r → RA L P N ops is Q ⟨updA t u (.d (.v (.bool false))), h⟩) : RA L P N ops is Q ⟨t, h⟩ :=
  ra_bool hb (fun hp => have hp := of_decide_eq_true hp; ht hp (by rwa [if_pos hp] at hh)) (fun hp => have hp := of_decide_eq_false hp; hf hp (by rwa [if_neg hp] at hh))
theorem ra_ifB {α : Type} {u : Nat} {p : Bool} {a b r : α} (hh : (if p = true then a else b) = r) (hb : t u = .d (.v (.bool p))) (ht : p = true → a = r → RA L P N ops is Q ⟨updA t u (.d (.v (.bool true))), h⟩) (hf : ¬ p = true → b = r → RA L P N ops is Q ⟨updA t u (.d (.v (.bool false))), h⟩) : RA L P N ops is Q ⟨t, h⟩ :=
  ra_bool hb (fun hp => ht hp (by rwa [if_pos hp] at hh)) (fun hp => hf (by simp [hp]) (by rwa [if_neg (by simp [hp])] at hh))
end
end Go.Proofs.YtlakbomkpnlidaaGreat
namespace Go.Proofs.YtlakbomkpnlidaaGreat
open Go.RowKit
set_option linter.unusedVariables false
set_option maxRecDepth 100000

mutual
/-- handles to the object at k, seen as data from here on -/
inductive FzR (k : Nat) (X : Option (List (List DV))) (D : Option (List DV)) : AV → AV → Prop
  | d (x : DV) : FzR k X D (.d x) (.d x)
  | own {es : List (List DV)} {n : Nat} (hX : X = some es) (hn : n = es.length) : FzR k X D (.own k 0 n) (.d (.sl es))
  | ptr {ds out : List DV} {j : Nat} (hD : D = some ds) (hj : Drp j ds out) : FzR k X D (.ptr k 0 1 0 j) (.ref out)
  | own' {k' f n : Nat} : FzR k X D (.own k' f n) (.own k' f n)
  | ptr' {k' f n i j : Nat} : FzR k X D (.ptr k' f n i j) (.ptr k' f n i j)
  | ref (cs : List DV) : FzR k X D (.ref cs) (.ref cs)
  | agg {cs ds : List AV} (h : FzRL k X D cs ds) : FzR k X D (.agg cs) (.agg ds)
  | tup {cs ds : List AV} (h : FzRL k X D cs ds) : FzR k X D (.tup cs) (.tup ds)
  | fn {g : FuncId} {cs ds : List AV} (h : FzRL k X D cs ds) : FzR k X D (.fn g cs) (.fn g ds)
  | dead (a : AV) : FzR k X D a .dead
inductive FzRL (k : Nat) (X : Option (List (List DV))) (D : Option (List DV)) : List AV → List AV → Prop
  | nil : FzRL k X D [] []
  | cons {c d : AV} {cs ds : List AV} (h : FzR k X D c d) (q : FzRL k X D cs ds) : FzRL k X D (c :: cs) (d :: ds)
end
theorem FzRL.len_ {k : Nat} {X : Option (List (List DV))} {D : Option (List DV)} : ∀ {cs ds : List AV}, FzRL k X D cs ds → cs.length = ds.length
  | _, _, .nil => rfl
  | _, _, .cons _ q => by simp [FzRL.len_ q]
theorem FzRL.get_ {k : Nat} {X : Option (List (List DV))} {D : Option (List DV)} : ∀ {cs ds : List AV}, FzRL k X D cs ds → ∀ (i : Nat) c d, cs[i]? = some c → ds[i]? = some d → FzR k X D c d
  | _, _, .nil, i, c, d, h, _ => by simp at h
  | _, _, .cons h q, 0, c, d, h1, h2 => by simp at h1 h2; subst h1 h2; exact h
  | _, _, .cons h q, i + 1, c, d, h1, h2 => by simp at h1 h2; exact FzRL.get_ q i c d h1 h2
section
variable {P : Program} {L N : Nat} {E : Env} {t : Nat → AV} {h h' : Heap} {k : Nat} {X : Option (List (List DV))} {D : Option (List DV)}

structure FzH (k : Nat) (X : Option (List (List DV))) (D : Option (List DV)) (h h' : Heap) : Prop where
  at_ : ∃ o, h k = .live [o] ∧ (∀ es, X = some es → o.cs = .data es) ∧ ∀ ds, D = some ds → o.cs = .av [ds.map .d]
  dead : h' k = .dead
  oth : ∀ p, p ≠ k → h' p = h p ∨ ∃ ty sz cs ds, h p = .live [⟨ty, sz, .av [cs]⟩] ∧ h' p = .live [⟨ty, sz, .av [ds]⟩] ∧ FzRL k X D cs ds
inductive FzT (k : Nat) (X : Option (List (List DV))) (D : Option (List DV)) (s : Nat → AV) : (Nat → AV) → Prop
  | nil : FzT k X D s fun _ => .dead
  | upd {t : Nat → AV} {d : Nat} {r r' : AV} (h : s d = r') (hr : FzR k X D r' r) (q : FzT k X D s t) : FzT k X D s (updA t d r)
theorem FzT.spec {s t : Nat → AV} (z : FzT k X D s t) (d : Nat) : FzR k X D (s d) (t d) := by
  induction z with
  | nil => exact .dead _
  | upd h hr q ih =>
    rename_i t d' r r'
    by_cases e : d = d'
    · subst e; rw [updA_same, h]; exact hr
    · rw [updA_ne _ _ e]; exact ih
inductive FzL (k : Nat) (X : Option (List (List DV))) (D : Option (List DV)) (h : Heap) : Heap → Prop
  | nil : FzL k X D h (upd h k .dead)
  | box {h' : Heap} {kb : Nat} {ty : TypeId} {sz : Nat} {cs ds : List AV} (hb : h kb = .live [⟨ty, sz, .av [cs]⟩]) (hne : Nat.beq kb k = false) (hr : FzRL k X D cs ds) (q : FzL k X D h h') : FzL k X D h (upd h' kb (.live [⟨ty, sz, .av [ds]⟩]))
theorem FzL.spec (z : FzL k X D h h') : h' k = .dead ∧ ∀ p, p ≠ k → h' p = h p ∨ ∃ ty sz cs ds, h p = .live [⟨ty, sz, .av [cs]⟩] ∧ h' p = .live [⟨ty, sz, .av [ds]⟩] ∧ FzRL k X D cs ds := by
  induction z with
  | nil => exact ⟨upd_same _ _ _, fun p hp => .inl (upd_ne _ _ hp)⟩
  | box hb hne hr q ih =>
    rename_i kb ty sz cs ds
    have hne' : kb ≠ k := fun e => by subst e; simp at hne
    refine ⟨by rw [upd_ne _ _ (Ne.symm hne')]; exact ih.1, fun p hp => ?_⟩
    by_cases e : p = kb
    · subst e; exact .inr ⟨ty, sz, cs, ds, hb, upd_same _ _ _, hr⟩
    · rw [upd_ne _ _ e]; exact ih.2 p hp
end
end Go.Proofs.YtlakbomkpnlidaaGreat
namespace Go.Proofs.YtlakbomkpnlidaaGreat
open Go.RowKit
set_option linter.unusedVariables false
set_option maxRecDepth 100000
def cI (x : Int) : List DV := [.v (.int .i64 x)]
def cU8 (x : Int) : List DV := [.v (.int .u8 x)]
def cS (x : ByteArray) : List DV := [.v (.string x)]
def cB (x : Bool) : List DV := [.v (.bool x)]
def cL {α : Type} (c : α → List DV) (xs : List α) : List DV := [.sl (xs.map c)]
theorem lv_of {h : Heap} {k : Nat} {o : AObj} (hk : h k = .live [o]) : lv h k 0 = some o := by unfold lv; rw [hk]; rfl
theorem rows_len {α : Type} {c : α → List DV} {es : List α} : (Cells.data (es.map c)).len = es.length := by simp [Cells.len]
theorem rows_get {α : Type} {c : α → List DV} {es : List α} {m : Nat} {e : α} (he : es[m]? = some e) : (Cells.data (es.map c)).get m = some ((c e).map .d) := by simp [Cells.get, he]
theorem sf_nil : ∀ s ∈ ([] : List Slot), SFlat s := fun s hs => by cases hs
theorem sf_cons {a : Slot} {l : List Slot} (h : SFlat a) (k : ∀ s ∈ l, SFlat s) : ∀ s ∈ a :: l, SFlat s := fun s hs => by
  rcases List.mem_cons.1 hs with rfl | hs
  · exact h
  · exact k s hs
theorem sflat_rows {α : Type} {t : TypeId} {z : Nat} {c : α → List DV} {es : List α} (hc : ∀ a, (c a).all DV.flat = true) : SFlat (.live [⟨t, z, .data (es.map c)⟩]) := by
  intro o ho
  simp only [List.mem_singleton] at ho
  subst ho
  intro e he x hx
  obtain ⟨a, _, rfl⟩ := List.mem_map.1 he
  exact List.all_eq_true.1 (hc a) x hx
theorem nestC_flat (kf i : Nat) : ∀ l : List DV, AV.flatL (nestC kf i l) = true
  | [] => rfl
  | .v x :: l => by simp [nestC, AV.flatL, AV.flat, DV.flat, nestC_flat kf i l]
  | .sl es :: l => by simp [nestC, AV.flatL, AV.flat, nestC_flat kf i l]
theorem nestC_len (kf i : Nat) : ∀ l : List DV, (nestC kf i l).length = l.length
  | [] => rfl
  | .v x :: l => by simp [nestC, nestC_len kf i l]
  | .sl es :: l => by simp [nestC, nestC_len kf i l]
def nestA (kf i : Nat) : DV → AV
  | .v x => .d (.v x)
  | .sl es => .own kf i es.length
theorem nestC_get (kf i : Nat) : ∀ (l : List DV) (j : Nat), (nestC kf i l)[j]? = (l[j]?).map (nestA kf i)
  | [], j => by simp [nestC]
  | .v x :: l, 0 => by simp [nestC, nestA]
  | .sl es :: l, 0 => by simp [nestC, nestA]
  | .v x :: l, j + 1 => by simp [nestC, nestC_get kf i l j]
  | .sl es :: l, j + 1 => by simp [nestC, nestC_get kf i l j]
theorem slCnt0 : ∀ {l : List DV} {j : Nat} {es : List (List DV)}, slCnt l = 0 → l[j]? = some (.sl es) → False
  | [], j, es, _, h => by simp at h
  | .v x :: l, 0, es, _, h => by simp at h
  | .v x :: l, j + 1, es, h0, h => slCnt0 (l := l) (by simpa [slCnt] using h0) (by simpa using h)
  | .sl x :: l, j, es, h0, h => by simp [slCnt] at h0
theorem slOf_of : ∀ {l : List DV} {j : Nat} {es : List (List DV)}, slCnt l = 1 → l[j]? = some (.sl es) → slOf l = es
  | [], j, es, _, h => by simp at h
  | .v x :: l, 0, es, _, h => by simp at h
  | .v x :: l, j + 1, es, h0, h => by simpa [slOf] using slOf_of (l := l) (by simpa [slCnt] using h0) (by simpa using h)
  | .sl x :: l, 0, es, _, h => by simp at h; simpa [slOf] using h
  | .sl x :: l, j + 1, es, h0, h => (slCnt0 (l := l) (by simpa [slCnt] using h0) (by simpa using h)).elim
theorem nestL_len {α : Type} {kf : Nat} {c : α → List DV} {x : List α} : (nestL kf c x).length = x.length := by simp [nestL]
theorem nestL_get {α : Type} {kf : Nat} {c : α → List DV} {x : List α} {i : Nat} : (nestL kf c x)[i]? = (x[i]?).map fun a => nestC kf i (c a) := by simp [nestL, List.getElem?_mapIdx]
theorem famL_get {α : Type} {ft : TypeId} {fz : Nat} {c : α → List DV} {x : List α} {i : Nat} : (famL ft fz c x)[i]? = (x[i]?).map fun a => (⟨ft, fz, .data (slOf (c a))⟩ : AObj) := by simp [famL]
theorem lv_fam {α : Type} {h : Heap} {kf : Nat} {ft : TypeId} {fz : Nat} {c : α → List DV} {x : List α} {m : Nat} {a : α} (hf : h kf = .live (famL ft fz c x)) (he : x[m]? = some a) : lv h kf m = some ⟨ft, fz, .data (slOf (c a))⟩ := by
  rw [lv_live hf, famL_get, he]; rfl
theorem view_nest {α : Type} {h : Heap} {k kf n : Nat} {bt ft : TypeId} {sz fz : Nat} {c : α → List DV} {x : List α} (hk : h k = .live [⟨bt, sz, .av (nestL kf c x)⟩]) (hf : h kf = .live (famL ft fz c x)) (hone : ∀ a, slCnt (c a) = 1) (hn : n = x.length) : View h (.own k 0 n) (.d (.sl (x.map c))) := by
  refine .row k 0 n _ _ (lv_of hk) (by simp [Cells.len, nestL_len, hn]) (by simp [hn]) (fun i e he => ?_) fun i e cells j cc xx he hi hj hx => ?_
  · rw [List.getElem?_map] at he
    obtain ⟨a, ha, rfl⟩ := Option.map_eq_some_iff.1 he
    exact ⟨nestC kf i (c a), by simp [Cells.get, nestL_get, ha], nestC_len _ _ _⟩
  · rw [List.getElem?_map] at he
    obtain ⟨a, ha, rfl⟩ := Option.map_eq_some_iff.1 he
    simp only [Cells.get, nestL_get, ha, Option.map_some, Option.some.injEq] at hi
    subst hi
    rw [nestC_get, hx] at hj
    simp only [Option.map_some, Option.some.injEq] at hj
    subst hj
    cases xx with
    | v x => exact .d _
    | sl es => exact View.data (lv_fam hf ha) (by rw [slOf_of (hone a) hx]) rfl
theorem view_mem {α : Type} {h : Heap} {kf m n : Nat} {ft : TypeId} {fz : Nat} {c : α → List DV} {x : List α} {a : α} {es : List (List DV)} (hf : h kf = .live (famL ft fz c x)) (he : x[m]? = some a) (hs : slOf (c a) = es) (hn : n = es.length) : View h (.own kf m n) (.d (.sl es)) := View.data (lv_fam hf he) (by rw [hs]) hn.symm
theorem sflat_nest {α : Type} {t : TypeId} {z kf : Nat} {c : α → List DV} {x : List α} : SFlat (.live [⟨t, z, .av (nestL kf c x)⟩]) := by
  intro o ho
  simp only [List.mem_singleton] at ho
  subst ho
  intro e he
  obtain ⟨i, hi⟩ := List.getElem?_of_mem he
  rw [nestL_get] at hi
  obtain ⟨a, _, rfl⟩ := Option.map_eq_some_iff.1 hi
  exact nestC_flat _ _ _
theorem sflat_fam {α : Type} {ft : TypeId} {fz : Nat} {c : α → List DV} {x : List α} (hc : ∀ a, ∃ (β : Type) (ys : List β) (d : β → List DV), slOf (c a) = ys.map d ∧ ∀ y, (d y).all DV.flat = true) : SFlat (.live (famL ft fz c x)) := by
  intro o ho
  obtain ⟨a, _, rfl⟩ := List.mem_map.1 ho
  intro e he xx hx
  obtain ⟨β, ys, d, h1, h2⟩ := hc a
  have he : e ∈ slOf (c a) := he
  rw [h1] at he
  obtain ⟨y, _, rfl⟩ := List.mem_map.1 he
  exact List.all_eq_true.1 (h2 y) xx hx
theorem sflat_box {t : TypeId} {z : Nat} {cs : List AV} (hc : AV.flatL cs = true) : SFlat (.live [⟨t, z, .av [cs]⟩]) := by
  intro o ho
  simp only [List.mem_singleton] at ho
  subst ho
  intro e he
  simp only [List.mem_singleton] at he
  subst he
  exact hc
section
variable {P : Program} {T : Tab} {L N : Nat} {ops : Array Oper} {E : Env} {K : List (Nat × Cls) → AS → Prop} {i : Nat} {is : List Nat} {t : Nat → AV} {h h' : Heap} {d : Tmp} {dst : Option Tmp} {op : Op} {ty : TypeId} {pos : String} {aft : Array Edge} {g : Option (Nat × Bool)}

theorem c_call (B : Nat) {f : FuncId} {x : Operand} {args : Array Operand} {at_ : Array TypeId} {caps as : List AV} {hs : List Slot} {r r' : AV} (hF : FnC P f [] as hs r) (hx : evA N ⟨t, h⟩ x = .fn f caps) (ha : evL N ⟨t, h⟩ args.toList ++ caps = as) (hfr : AV.freeL as = true)
    (hB : Abv h B := by repeat (first | exact abv_nil _ | exact abv_lks rfl | refine abv_upd ?_ rfl))
    (hr : RenR (B + ·) r r' := by repeat (first | exact RenRL.nil | apply RenRL.cons | exact RenR.d _ | apply RenR.agg | apply RenR.tup | exact RenR.own _ _ _ _ rfl | exact RenR.ptr _ _ _ _ _ _ rfl | exact RenR.ref _ | apply RenR.fn | exact RenR.dead))
    (hb : BirR (B + ·) B hs h h' := by repeat (first | exact BirR.nil _ _ | (apply BirR.cons; (first | exact RenS.no | exact RenS.dead | exact RenS.data _ _ _ | exact RenS.nest rfl | exact RenS.fam | exact RenS.gen _)))) :
    Heavy1 P N ⟨dst, .call ⟨.value x, args, at_⟩, ty, pos, aft, g⟩ ⟨t, h⟩ r' h' ∧ ∀ k, h k ≠ .no → h' k = h k := st_call B hx ha hfr hF hB hr hb
theorem b_call (B : Nat) {f : FuncId} {x : Operand} {args : Array Operand} {at_ : Array TypeId} {caps as : List AV} {hs : List Slot} {r r' : AV} (hF : FnC P f [] as hs r) (hx : evA N ⟨t, h⟩ x = .fn f caps) (ha : evL N ⟨t, h⟩ args.toList ++ caps = as) (hfr : AV.freeL as = true)
    (hB : Abv h B := by repeat (first | exact abv_nil _ | exact abv_lks rfl | refine abv_upd ?_ rfl))
    (hr : RenR (B + ·) r r' := by repeat (first | exact RenRL.nil | apply RenRL.cons | exact RenR.d _ | apply RenR.agg | apply RenR.tup | exact RenR.own _ _ _ _ rfl | exact RenR.ptr _ _ _ _ _ _ rfl | exact RenR.ref _ | apply RenR.fn | exact RenR.dead))
    (hb : BirR (B + ·) B hs h h' := by repeat (first | exact BirR.nil _ _ | (apply BirR.cons; (first | exact RenS.no | exact RenS.dead | exact RenS.data _ _ _ | exact RenS.nest rfl | exact RenS.fam | exact RenS.gen _)))) :
    Abv h B ∧ (∀ hx : Heap, Abv hx B → (∀ p, h p ≠ .no → hx p = h p) → Heavy1 P N ⟨dst, .call ⟨.value x, args, at_⟩, ty, pos, aft, g⟩ ⟨t, hx⟩ r' (over B hx h')) ∧ over B h h' = h' := sb_call B hx ha hfr hF hB hr hb
theorem view_rows {α : Type} {k f : Nat} {bt : TypeId} {sz : Nat} {c : α → List DV} {es : List α} (ho : lv h k f = some ⟨bt, sz, .data (es.map c)⟩) : View h (.own k f es.length) (.d (.sl (es.map c))) := View.data ho rfl (by simp)
theorem view_rowsN {α : Type} {k f n : Nat} {bt : TypeId} {sz : Nat} {c : α → List DV} {es : List α} (ho : lv h k f = some ⟨bt, sz, .data (es.map c)⟩) (hn : n = es.length) : View h (.own k f n) (.d (.sl (es.map c))) := View.data ho rfl (by simp [hn])
theorem c_callV (B : Nat) {f : FuncId} {x : Operand} {args : Array Operand} {at_ : Array TypeId} {caps as : List AV} {hs : List Slot} {r r' : AV} (hF : FnC P f [] as hs r) (hx : evA N ⟨t, h⟩ x = .fn f caps) (hfl : r.flat = true)
    (ha : Vs h (evL N ⟨t, h⟩ args.toList ++ caps) as := by repeat (first | exact Vs.nil | apply Vs.cons | exact View.d _ | exact view_rows rfl | exact view_rowsN rfl (by first | (simp; done) | omega | (simp; omega)) | exact view_part rfl (by (repeat (first | exact PreA.z _ | apply PreA.t | apply PreA.d)); first | done | fail) | apply View.agg_ | apply View.fn_ | exact view_ref (by (repeat (first | exact Pre.z _ | apply Pre.t)); first | done | fail) | exact view_nest rfl rfl (fun _ => rfl) (by first | rfl | (simp; done) | omega | (simp; omega)) | exact view_mem rfl (by assumption) rfl (by first | rfl | (simp; done) | omega | (simp; omega)) | exact view_partV rfl (by (repeat (first | exact PreV.z _ | apply PreV.t (View.d _) | apply PreV.t (view_rows rfl) | apply PreV.t (view_rowsN rfl (by first | (simp; done) | omega | (simp; omega))) | apply PreV.t (view_nest rfl rfl (fun _ => rfl) (by first | rfl | (simp; done) | omega | (simp; omega))) | apply PreV.d)); first | done | fail)))
    (hfs : ∀ s ∈ hs, SFlat s := by repeat (first | exact sf_nil | refine sf_cons (sflat_rows (fun _ => rfl)) ?_ | refine sf_cons (sflat_box rfl) ?_ | refine sf_cons sflat_nest ?_ | refine sf_cons (sflat_fam fun _ => ⟨_, _, _, rfl, fun _ => rfl⟩) ?_))
    (hB : Abv h B := by repeat (first | exact abv_nil _ | exact abv_lks rfl | refine abv_upd ?_ rfl))
    (hr : RenR (B + ·) r r' := by repeat (first | exact RenRL.nil | apply RenRL.cons | exact RenR.d _ | apply RenR.agg | apply RenR.tup | exact RenR.own _ _ _ _ rfl | exact RenR.ptr _ _ _ _ _ _ rfl | exact RenR.ref _ | apply RenR.fn | exact RenR.dead))
    (hb : BirR (B + ·) B hs h h' := by repeat (first | exact BirR.nil _ _ | (apply BirR.cons; (first | exact RenS.no | exact RenS.dead | exact RenS.data _ _ _ | exact RenS.nest rfl | exact RenS.fam | exact RenS.gen _)))) :
    Heavy1 P N ⟨dst, .call ⟨.value x, args, at_⟩, ty, pos, aft, g⟩ ⟨t, h⟩ r' h' ∧ ∀ k, h k ≠ .no → h' k = h k := st_callV B hx ha hF hfl hfs hB hr hb
theorem b_callV (B : Nat) {f : FuncId} {x : Operand} {args : Array Operand} {at_ : Array TypeId} {caps as : List AV} {hs : List Slot} {r r' : AV} (hF : FnC P f [] as hs r) (hx : evA N ⟨t, h⟩ x = .fn f caps) (hfl : r.flat = true)
    (ha : Vs h (evL N ⟨t, h⟩ args.toList ++ caps) as := by repeat (first | exact Vs.nil | apply Vs.cons | exact View.d _ | exact view_rows rfl | exact view_rowsN rfl (by first | (simp; done) | omega | (simp; omega)) | exact view_part rfl (by (repeat (first | exact PreA.z _ | apply PreA.t | apply PreA.d)); first | done | fail) | apply View.agg_ | apply View.fn_ | exact view_ref (by (repeat (first | exact Pre.z _ | apply Pre.t)); first | done | fail) | exact view_nest rfl rfl (fun _ => rfl) (by first | rfl | (simp; done) | omega | (simp; omega)) | exact view_mem rfl (by assumption) rfl (by first | rfl | (simp; done) | omega | (simp; omega)) | exact view_partV rfl (by (repeat (first | exact PreV.z _ | apply PreV.t (View.d _) | apply PreV.t (view_rows rfl) | apply PreV.t (view_rowsN rfl (by first | (simp; done) | omega | (simp; omega))) | apply PreV.t (view_nest rfl rfl (fun _ => rfl) (by first | rfl | (simp; done) | omega | (simp; omega))) | apply PreV.d)); first | done | fail)))
    (hfs : ∀ s ∈ hs, SFlat s := by repeat (first | exact sf_nil | refine sf_cons (sflat_rows (fun _ => rfl)) ?_ | refine sf_cons (sflat_box rfl) ?_ | refine sf_cons sflat_nest ?_ | refine sf_cons (sflat_fam fun _ => ⟨_, _, _, rfl, fun _ => rfl⟩) ?_))
    (hB : Abv h B := by repeat (first | exact abv_nil _ | exact abv_lks rfl | refine abv_upd ?_ rfl))
    (hr : RenR (B + ·) r r' := by repeat (first | exact RenRL.nil | apply RenRL.cons | exact RenR.d _ | apply RenR.agg | apply RenR.tup | exact RenR.own _ _ _ _ rfl | exact RenR.ptr _ _ _ _ _ _ rfl | exact RenR.ref _ | apply RenR.fn | exact RenR.dead))
    (hb : BirR (B + ·) B hs h h' := by repeat (first | exact BirR.nil _ _ | (apply BirR.cons; (first | exact RenS.no | exact RenS.dead | exact RenS.data _ _ _ | exact RenS.nest rfl | exact RenS.fam | exact RenS.gen _)))) :
    Abv h B ∧ (∀ hx : Heap, Abv hx B → (∀ p, h p ≠ .no → hx p = h p) → Heavy1 P N ⟨dst, .call ⟨.value x, args, at_⟩, ty, pos, aft, g⟩ ⟨t, hx⟩ r' (over B hx h')) ∧ over B h h' = h' := sb_callV B hx ha hF hfl hfs hB hr hb

theorem bx_ld1 (hT : TOk P T) {lt bt : TypeId} {x : Operand} {k j sz : Nat} {cells : List AV} {c : AV} {ti : TI} (hx : evA N ⟨t, h⟩ x = .ptr k 0 1 0 j) (h1 : T lt = some ti) (h2 : isRow ti.desc = false) (hk : h k = .live [⟨bt, sz, .av [cells]⟩]) (hc : cells[j]? = some c) :
    Light1 P N ⟨some d, .load lt x, ty, pos, aft, g⟩ ⟨t, h⟩ c := li_load1 hT hx h1 h2 (lv_of hk) rfl rfl hc
theorem bx_ldN (hT : TOk P T) {lt bt : TypeId} {x : Operand} {k j sz : Nat} {cells out : List AV} {ti : TI} (hx : evA N ⟨t, h⟩ x = .ptr k 0 1 0 j) (h1 : T lt = some ti) (h2 : isRow ti.desc = true) (hk : h k = .live [⟨bt, sz, .av [cells]⟩])
    (hc : Seg j ti.size cells out := by repeat (first | exact Seg.z _ | apply Seg.t | apply Seg.d)) :
    Light1 P N ⟨some d, .load lt x, ty, pos, aft, g⟩ ⟨t, h⟩ (.agg out) := li_loadN hT hx h1 h2 (lv_of hk) rfl rfl hc
theorem bx_fa (hT : TOk P T) {s bt : TypeId} {x : Operand} {q k j sz : Nat} {cells : List AV} {ti fi : TI} {fs : Array Field} {fld : Field} (hx : evA N ⟨t, h⟩ x = .ptr k 0 1 0 j) (h1 : T s = some ti) (h2 : ti.desc = .struct fs) (h3 : fs[q]? = some fld)
    (h4 : T fld.type = some fi) (h5 : Nat.beq fi.size 0 = false) (hk : h k = .live [⟨bt, sz, .av [cells]⟩]) : Light1 P N ⟨some d, .fieldAddr s x q, ty, pos, aft, g⟩ ⟨t, h⟩ (.ptr k 0 1 0 (j + fld.offset)) := li_fieldAddr hT hx h1 h2 h3 h4 h5 (lv_of hk) rfl rfl
theorem bx_nil {bt : TypeId} {x : Operand} {k j sz : Nat} {cells : List AV} (hx : evA N ⟨t, h⟩ x = .ptr k 0 1 0 j) (hk : h k = .live [⟨bt, sz, .av [cells]⟩]) : Light1 P N ⟨some d, .nilCheck x, ty, pos, aft, g⟩ ⟨t, h⟩ (.ptr k 0 1 0 j) := li_nil hx (lv_of hk) rfl rfl
theorem bx_st (hT : TOk P T) {bt bt' : TypeId} {x y : Operand} {k j sz : Nat} {cells cs cells' : List AV} {ti : TI} (hx : evA N ⟨t, h⟩ x = .ptr k 0 1 0 j) (hy : cellsA (evA N ⟨t, h⟩ y) = cs) (ho : okL cs = true) (h1 : T bt = some ti)
    (hl : Nat.beq cs.length ti.size = true) (hpos : Nat.blt 0 ti.size = true) (hk : h k = .live [⟨bt', sz, .av [cells]⟩]) (hs : Spl j cs cells cells' := by repeat (first | exact Spl.z _ | apply Spl.t | apply Spl.d)) :
    Heavy1 P N ⟨dst, .store bt x y, ty, pos, aft, g⟩ ⟨t, h⟩ .dead (upd h k (.live [⟨bt', sz, .av [cells']⟩])) := wr_store hT hx hy ho h1 hl hpos hk rfl rfl rfl hs (.box _ _) (.one _ _)

theorem sl_ix {α : Type} (hT : TOk P T) {st_ e : TypeId} {x y : Operand} {kk : IntKind} {iv : Int} {c : α → List DV} {es : List α} {ed : α} {ti ei : TI} (he : atI es iv = some ed) (hx : evA N ⟨t, h⟩ x = .d (.sl (es.map c))) (hy : evA N ⟨t, h⟩ y = .d (.v (.int kk iv)))
    (h1 : T st_ = some ti) (h2 : ti.desc = .slice e) (h3 : T e = some ei) (hs : (c ed).length = ei.size) : Pure1 P N ⟨some d, .indexAddr st_ x y, ty, pos, aft, g⟩ ⟨t, h⟩ (.ref (c ed)) :=
  pu_index_sl hT hx hy (atI_e he).1 h1 h2 h3 (map_at (atI_e he).2.1) hs
theorem ow_ix {α : Type} (hT : TOk P T) {st_ e bt : TypeId} {x y : Operand} {kk : IntKind} {iv : Int} {k sz n : Nat} {c : α → List DV} {es : List α} {ed : α} {ti ei : TI} (he : atI es iv = some ed) (hx : evA N ⟨t, h⟩ x = .own k 0 n) (hy : evA N ⟨t, h⟩ y = .d (.v (.int kk iv)))
    (h1 : T st_ = some ti) (h2 : ti.desc = .slice e) (h3 : T e = some ei) (hk : h k = .live [⟨bt, sz, .data (es.map c)⟩]) (hn : n = es.length) (hs : sz = ei.size) : Light1 P N ⟨some d, .indexAddr st_ x y, ty, pos, aft, g⟩ ⟨t, h⟩ (.ptr k 0 n iv.toNat 0) :=
  li_index hT hx hy (atI_e he).1 (hn ▸ (atI_e he).2.2) h1 h2 h3 (lv_of hk) (rows_len.trans hn.symm) hs
theorem rw_ld1 {α : Type} (hT : TOk P T) {lt bt : TypeId} {x : Operand} {k n m j sz : Nat} {c : α → List DV} {es : List α} {ed : α} {u : DV} {ti : TI} (he : es[m]? = some ed) (hx : evA N ⟨t, h⟩ x = .ptr k 0 n m j) (h1 : T lt = some ti) (h2 : isRow ti.desc = false) (hk : h k = .live [⟨bt, sz, .data (es.map c)⟩]) (hn : n = es.length)
    (hc : (c ed)[j]? = some u) : Light1 P N ⟨some d, .load lt x, ty, pos, aft, g⟩ ⟨t, h⟩ (.d u) := li_load1 hT hx h1 h2 (lv_of hk) (rows_len.trans hn.symm) (rows_get he) (map_at hc)
theorem rw_ldN {α : Type} (hT : TOk P T) {lt bt : TypeId} {x : Operand} {k n m j sz : Nat} {c : α → List DV} {es : List α} {ed : α} {out : List AV} {ti : TI} (he : es[m]? = some ed) (hx : evA N ⟨t, h⟩ x = .ptr k 0 n m j) (h1 : T lt = some ti) (h2 : isRow ti.desc = true) (hk : h k = .live [⟨bt, sz, .data (es.map c)⟩]) (hn : n = es.length)
    (hc : Seg j ti.size ((c ed).map .d) out := by repeat (first | exact Seg.z _ | apply Seg.t | apply Seg.d)) : Light1 P N ⟨some d, .load lt x, ty, pos, aft, g⟩ ⟨t, h⟩ (.agg out) := li_loadN hT hx h1 h2 (lv_of hk) (rows_len.trans hn.symm) (rows_get he) hc
theorem rw_fa {α : Type} (hT : TOk P T) {s bt : TypeId} {x : Operand} {q k n m j sz : Nat} {c : α → List DV} {es : List α} {ti fi : TI} {fs : Array Field} {fld : Field} {ed : α} (he : es[m]? = some ed) (hx : evA N ⟨t, h⟩ x = .ptr k 0 n m j) (h1 : T s = some ti) (h2 : ti.desc = .struct fs) (h3 : fs[q]? = some fld)
    (h4 : T fld.type = some fi) (h5 : Nat.beq fi.size 0 = false) (hk : h k = .live [⟨bt, sz, .data (es.map c)⟩]) (hn : n = es.length) : Light1 P N ⟨some d, .fieldAddr s x q, ty, pos, aft, g⟩ ⟨t, h⟩ (.ptr k 0 n m (j + fld.offset)) :=
  li_fieldAddr hT hx h1 h2 h3 h4 h5 (lv_of hk) (rows_len.trans hn.symm) (rows_get he)
theorem rw_st {α : Type} (hT : TOk P T) {bt bt' : TypeId} {x y : Operand} {k n m j sz : Nat} {c : α → List DV} {es : List α} {ed : α} (ed' : α) {cs : List AV} {ti : TI} (he : es[m]? = some ed) (hx : evA N ⟨t, h⟩ x = .ptr k 0 n m j) (hy : cellsA (evA N ⟨t, h⟩ y) = cs) (ho : okL cs = true) (h1 : T bt = some ti)
    (hl : Nat.beq cs.length ti.size = true) (hpos : Nat.blt 0 ti.size = true) (hk : h k = .live [⟨bt', sz, .data (es.map c)⟩]) (hn : n = es.length) (hs : Spl j cs ((c ed).map .d) ((c ed').map .d) := by repeat (first | exact Spl.z _ | apply Spl.t | apply Spl.d)) :
    Heavy1 P N ⟨dst, .store bt x y, ty, pos, aft, g⟩ ⟨t, h⟩ .dead (upd h k (.live [⟨bt', sz, .data ((es.set m ed').map c)⟩])) := by
  rw [List.map_set]
  refine wr_store hT hx hy ho h1 hl hpos hk rfl (rows_len.trans hn.symm) (rows_get he) hs (.data _ _ ?_) (.one _ _)
  generalize c ed' = l
  induction l with
  | nil => exact .nil
  | cons x l ih => exact .cons ih
theorem ow_len {α : Type} (hT : TOk P T) {st_ e bt : TypeId} {x : Operand} {k n sz : Nat} {c : α → List DV} {es : List α} {ti : TI} (hx : evA N ⟨t, h⟩ x = .own k 0 n) (h1 : T st_ = some ti) (h2 : ti.desc = .slice e) (hk : h k = .live [⟨bt, sz, .data (es.map c)⟩]) (hn : n = es.length) :
    Light1 P N ⟨some d, .call ⟨.builtin .len, #[x], #[st_]⟩, ty, pos, aft, g⟩ ⟨t, h⟩ (.d (.v (.int .i64 (es.length : Int)))) := by
  subst hn
  exact li_len hT hx h1 h2 (lv_of hk) rows_len
theorem ap_own {α : Type} (hT : TOk P T) {bt e bt' : TypeId} {s x : Operand} {k n sz : Nat} {c : α → List DV} {es ns : List α} {ti ei : TI} (hb : (es.length + ns.length) * sz * 64 ≤ 140737488355328) (hs : evA N ⟨t, h⟩ s = .own k 0 n) (hx : evA N ⟨t, h⟩ x = .d (.sl (ns.map c))) (h1 : T bt = some ti) (h2 : ti.desc = .slice e) (h3 : T e = some ei)
    (hzs : Nat.beq ei.zero.cells.size ei.size = true) (hpos : Nat.blt 0 ei.size = true) (hsb : Nat.ble ei.bytes (ei.size * 64) = true) (hk : h k = .live [⟨bt', sz, .data (es.map c)⟩]) (hn : n = es.length) (hty : bt' = e) (hsz : sz = ei.size) (hcl : ∀ a, (c a).length = ei.size) :
    Heavy1 P N ⟨dst, .call ⟨.builtin .append, #[s, x], #[bt, bt]⟩, ty, pos, aft, g⟩ ⟨t, h⟩ (.own k 0 (es ++ ns).length) (upd h k (.live [⟨bt', sz, .data ((es ++ ns).map c)⟩])) := by
  subst hn
  have hle := Nat.le_of_ble_eq_true hsb
  have hp := blt_lt hpos
  have e1 : (es.length + ns.length) * ei.bytes ≤ (es.length + ns.length) * sz * 64 := by
    rw [Nat.mul_assoc, hsz]; exact Nat.mul_le_mul_left _ hle
  have e2 : es.length + ns.length ≤ (es.length + ns.length) * sz := Nat.le_mul_of_pos_right _ (by omega)
  have := wr_append (P := P) (N := N) (dst := dst) (ty := ty) (pos := pos) (aft := aft) (g := g) (n := es.length) hT hs hx h1 h2 h3 hzs hpos hk rfl rows_len hty hsz (fun x hx => by obtain ⟨a, _, rfl⟩ := List.mem_map.1 hx; exact hcl a) (.data _ _) (.one _ _)
    (by rw [List.length_map]; omega) (by rw [List.length_map]; omega)
  rw [List.length_map, ← List.map_append, ← List.length_append] at this
  exact this
theorem ap_nil {α : Type} (k : Nat) (hT : TOk P T) {bt e : TypeId} {s x : Operand} {c : α → List DV} {ns : List α} {ti ei : TI} {sz : Nat} (hb : ns.length * sz * 64 ≤ 140737488355328) (hs : evA N ⟨t, h⟩ s = .d (.v (.slice none 0 0))) (hx : evA N ⟨t, h⟩ x = .d (.sl (ns.map c))) (h1 : T bt = some ti) (h2 : ti.desc = .slice e) (h3 : T e = some ei) (hsz : ei.size = sz)
    (hzs : Nat.beq ei.zero.cells.size ei.size = true) (hpos : Nat.blt 0 ei.size = true) (hsb : Nat.ble ei.bytes (ei.size * 64) = true) (hk : h k = .no) (hcl : ∀ a, (c a).length = ei.size) :
    Heavy1 P N ⟨dst, .call ⟨.builtin .append, #[s, x], #[bt, bt]⟩, ty, pos, aft, g⟩ ⟨t, h⟩ (.own k 0 ns.length) (upd h k (.live [⟨e, ei.size, .data (ns.map c)⟩])) ∧ ∀ k', h k' ≠ .no → upd h k (.live [⟨e, ei.size, .data (ns.map c)⟩]) k' = h k' := by
  subst hsz
  have hle := Nat.le_of_ble_eq_true hsb
  have hp := blt_lt hpos
  have e1 : ns.length * ei.bytes ≤ ns.length * ei.size * 64 := by rw [Nat.mul_assoc]; exact Nat.mul_le_mul_left _ hle
  have e2 : ns.length ≤ ns.length * ei.size := Nat.le_mul_of_pos_right _ (by omega)
  have := st_append_nil (P := P) (N := N) (dst := dst) (ty := ty) (pos := pos) (aft := aft) (g := g) k hT hs hx h1 h2 h3 hzs hpos hk (fun x hx => by obtain ⟨a, _, rfl⟩ := List.mem_map.1 hx; exact hcl a) (by rw [List.length_map]; omega) (by rw [List.length_map]; omega)
  rw [List.length_map] at this
  exact this
theorem mk_own {α : Type} (k : Nat) (hT : TOk P T) {bt e : TypeId} {x y : Operand} {kx ky : IntKind} {a b : Int} {ti ei : TI} {zs : List DV} {c : α → List DV} {sz : Nat} (z : α) (hb : 0 ≤ a ∧ a = b ∧ a.toNat * sz * 64 ≤ 281474976710656) (hx : evA N ⟨t, h⟩ x = .d (.v (.int kx a))) (hy : evA N ⟨t, h⟩ y = .d (.v (.int ky b)))
    (h1 : T bt = some ti) (h2 : ti.desc = .slice e) (h3 : T e = some ei) (hsz : ei.size = sz) (hz : dvL ei.zero.cells.toList = zs) (hone : oneL ei.zero.cells.toList = true) (hzs : Nat.beq zs.length ei.size = true) (hpos : Nat.blt 0 ei.size = true) (hsb : Nat.ble ei.bytes (ei.size * 64) = true) (hk : h k = .no) (hcz : zs = c z) :
    Heavy1 P N ⟨some d, .makeSlice bt x y, ty, pos, aft, g⟩ ⟨t, h⟩ (.own k 0 (List.replicate a.toNat z).length) (upd h k (.live [⟨e, ei.size, .data ((List.replicate a.toNat z).map c)⟩])) ∧ ∀ k', h k' ≠ .no → upd h k (.live [⟨e, ei.size, .data ((List.replicate a.toNat z).map c)⟩]) k' = h k' := by
  subst hsz
  obtain ⟨b1, rfl, b3⟩ := hb
  have hle := Nat.le_of_ble_eq_true hsb
  have hp := blt_lt hpos
  have e1 : ei.bytes * a.toNat ≤ a.toNat * ei.size * 64 := by rw [Nat.mul_comm, Nat.mul_assoc]; exact Nat.mul_le_mul_left _ hle
  have e2 : a.toNat ≤ a.toNat * ei.size := Nat.le_mul_of_pos_right _ (by omega)
  have := st_make (P := P) (N := N) (d := d) (ty := ty) (pos := pos) (aft := aft) (g := g) (l := a.toNat) (c := a.toNat) k hT hx hy (by omega) (by omega) (Nat.le_refl _) h1 h2 h3 hz hone hzs hpos (by omega) (by omega) hk
  rw [hcz, ← List.map_replicate] at this
  rw [List.length_replicate]
  exact this
theorem bs_val {α : Type} (hT : TOk P T) {bt e : TypeId} {len : Nat} {parts : Array (Nat × Operand)} {ti ei : TI} {es : List (List AV)} {ds : List (List DV)} (c : α → List DV) (xs : List α) (h1 : T bt = some ti) (h2 : ti.desc = .slice e) (h3 : T e = some ei)
    (hel : Els (evA N ⟨t, h⟩) ei.size 0 parts.toList es) (hlen : Nat.beq es.length len = true) (hpos : Nat.blt 0 (len * ei.size) = true) (hsm : Nat.ble (len * ei.size) 16777216 = true) (hcc : AllDD es ds) (hxs : ds = xs.map c) :
    Heavy1 P N ⟨some d, .buildSlice bt len parts, ty, pos, aft, g⟩ ⟨t, h⟩ (.d (.sl (xs.map c))) h ∧ ∀ k', h k' ≠ .no → h k' = h k' := by
  subst hxs
  exact st_slice_val hT h1 h2 h3 hel hlen hpos hsm hcc
theorem bs_own {α : Type} (k : Nat) (hT : TOk P T) {bt e : TypeId} {len : Nat} {parts : Array (Nat × Operand)} {ti ei : TI} {es : List (List AV)} {ds : List (List DV)} (c : α → List DV) (xs : List α) (h1 : T bt = some ti) (h2 : ti.desc = .slice e) (h3 : T e = some ei)
    (hel : Els (evA N ⟨t, h⟩) ei.size 0 parts.toList es) (hlen : Nat.beq es.length len = true) (hpos : Nat.blt 0 (len * ei.size) = true) (hsm : Nat.ble (len * ei.size) 16777216 = true) (hcc : AllDD es ds) (hxs : ds = xs.map c) (hk : h k = .no) :
    Heavy1 P N ⟨some d, .buildSlice bt len parts, ty, pos, aft, g⟩ ⟨t, h⟩ (.own k 0 xs.length) (upd h k (.live [⟨e, ei.size, .data (xs.map c)⟩])) ∧ ∀ k', h k' ≠ .no → upd h k (.live [⟨e, ei.size, .data (xs.map c)⟩]) k' = h k' := by
  subst hxs
  have hl : len = xs.length := by
    have h5 := Nat.eq_of_beq_eq_true hlen
    have h6 := congrArg List.length hcc.eq_
    simp at h6
    omega
  have := st_slice (P := P) (N := N) (d := d) (ty := ty) (pos := pos) (aft := aft) (g := g) k hT h1 h2 h3 hel hlen hpos hsm (.data hcc) hk
  rw [hl] at this ⊢
  exact this
end
end Go.Proofs.YtlakbomkpnlidaaGreat
namespace Go.Proofs.YtlakbomkpnlidaaGreat
open Go.RowKit
set_option linter.unusedVariables false
set_option maxRecDepth 100000
def strAt (s : ByteArray) (i : Int) : Option Int := if 0 ≤ i then (s[i.toNat]?).map (fun b => (b.toNat : Int)) else none
def subL {α : Type} (xs : List α) (a b : Int) : List α := (xs.drop a.toNat).take (b.toNat - a.toNat)
theorem orE_s {V Z : Type} {z r : Z} {f : V → Option Z} (h : orE (.inr z) f = some r) : some z = some r := h
theorem orE_f {V Z : Type} {v : V} {r : Z} {f : V → Option Z} (h : orE (.inl v) f = some r) : f v = some r := h
section
variable {P : Program} {T : Tab} {L N : Nat} {ops : Array Oper} {E : Env} {K : List (Nat × Cls) → AS → Prop} {i : Nat} {is : List Nat} {t : Nat → AV} {h h' : Heap} {d : Tmp} {dst : Option Tmp} {op : Op} {ty : TypeId} {pos : String} {aft : Array Edge} {g : Option (Nat × Bool)} {Q : AExit → AS → Prop} {σ : AS} {xt yt : TypeId} {x y : Operand} {a b : Int}

theorem pw_add (hx : evA N ⟨t, h⟩ x = .d (.v (.int .i64 a))) (hy : evA N ⟨t, h⟩ y = .d (.v (.int .i64 b))) : Pure1 P N ⟨some d, .binOp .add xt x y yt, ty, pos, aft, g⟩ ⟨t, h⟩ (.d (.v (.int .i64 (w64 (a + b))))) := pu_addw hx hy
theorem pw_sub (hx : evA N ⟨t, h⟩ x = .d (.v (.int .i64 a))) (hy : evA N ⟨t, h⟩ y = .d (.v (.int .i64 b))) : Pure1 P N ⟨some d, .binOp .sub xt x y yt, ty, pos, aft, g⟩ ⟨t, h⟩ (.d (.v (.int .i64 (w64 (a - b))))) := pu_subw hx hy
theorem pw_mul (hx : evA N ⟨t, h⟩ x = .d (.v (.int .i64 a))) (hy : evA N ⟨t, h⟩ y = .d (.v (.int .i64 b))) : Pure1 P N ⟨some d, .binOp .mul xt x y yt, ty, pos, aft, g⟩ ⟨t, h⟩ (.d (.v (.int .i64 (w64 (a * b))))) := pu_mulw hx hy
theorem pw_quo (hx : evA N ⟨t, h⟩ x = .d (.v (.int .i64 a))) (hy : evA N ⟨t, h⟩ y = .d (.v (.int .i64 b))) (hb : b ≠ 0) : Pure1 P N ⟨some d, .binOp .quo xt x y yt, ty, pos, aft, g⟩ ⟨t, h⟩ (.d (.v (.int .i64 (w64 (a.tdiv b))))) := pu_quow hx hy hb
theorem pw_neg (hx : evA N ⟨t, h⟩ x = .d (.v (.int .i64 a))) : Pure1 P N ⟨some d, .unOp .neg xt x, ty, pos, aft, g⟩ ⟨t, h⟩ (.d (.v (.int .i64 (w64 (-a))))) :=
  pu_un (by rw [hx]; rfl) fun w => by simp [Op.unary, Op.intArith, w64]
theorem pu_negw {kx : IntKind} (hx : evA N ⟨t, h⟩ x = .d (.v (.int kx a))) : Pure1 P N ⟨some d, .unOp .neg xt x, ty, pos, aft, g⟩ ⟨t, h⟩ (.d (.v (.int kx (kx.wrap (-a))))) :=
  pu_un (by rw [hx]; rfl) fun w => by simp [Op.unary, Op.intArith]
theorem pw_cv (hT : TOk P T) {st_ dt : TypeId} {d1 d2 : TI} {k1 : IntKind} (h1 : T st_ = some d1) (h2 : T dt = some d2) (e2 : d2.desc = .int .i64) (hx : evA N ⟨t, h⟩ x = .d (.v (.int k1 a))) (e1 : d1.desc = .int k1) :
    Pure1 P N ⟨some d, .convert st_ dt x, ty, pos, aft, g⟩ ⟨t, h⟩ (.d (.v (.int .i64 (w64 a)))) := pu_ii hT h1 h2 e2 hx e1
theorem pu_sidx (hT : TOk P T) {s : ByteArray} {kk : IntKind} {ti : TI} (hb : strAt s a = some b) (hx : evA N ⟨t, h⟩ x = .d (.v (.string s))) (hy : evA N ⟨t, h⟩ y = .d (.v (.int kk a))) (h1 : T xt = some ti) (h2 : ti.desc = .string) :
    Pure1 P N ⟨some d, .index xt x y, ty, pos, aft, g⟩ ⟨t, h⟩ (.d (.v (.int .u8 b))) := fun w F μ hh ρ st => by
  have e1 := rep_v (by have := st x (by simp [Op.operands]); rw [hx] at this; exact this)
  have e2 := rep_v (by have := st y (by simp [Op.operands]); rw [hy] at this; exact this)
  have hu := (hT _ _ h1).1
  rw [h2] at hu
  refine ⟨.int .u8 b, ?_, .d _ _ (.v _ rfl)⟩
  unfold strAt at hb
  split at hb
  · rename_i h0
    obtain ⟨c, hc, rfl⟩ := Option.map_eq_some_iff.1 hb
    simp [execOp, Instr.index, e1, e2, asIntOf, run_underlying hu, h0, hc]
  · cases hb
theorem pu_lsub {α : Type} (hT : TOk P T) {c : α → List DV} {es : List α} {lo hi : Option Operand} {e : TypeId} {ti ei : TI} (hab : 0 ≤ a ∧ a ≤ b ∧ b ≤ es.length) (hx : evA N ⟨t, h⟩ x = .d (.sl (es.map c))) (hlo : (lo = none ∧ a = 0) ∨ ∃ o k, lo = some o ∧ evA N ⟨t, h⟩ o = .d (.v (.int k a)))
    (hhi : (hi = none ∧ b = es.length) ∨ ∃ o k, hi = some o ∧ evA N ⟨t, h⟩ o = .d (.v (.int k b))) (h1 : T xt = some ti) (h2 : ti.desc = .slice e) (h3 : T e = some ei) (hcl : ∀ u, (c u).length = ei.size) :
    Pure1 P N ⟨some d, .slice xt x lo hi none, ty, pos, aft, g⟩ ⟨t, h⟩ (.d (.sl ((subL es a b).map c))) := fun w F μ hh ρ st => by
  have hr := st x (by simp [Op.operands])
  rw [hx] at hr
  have hu := (hT _ _ h1).1
  rw [h2] at hu
  obtain ⟨q0, q1, q2⟩ := hab
  generalize hvx : ρ x = vx at hr
  cases hr with | d _ _ hd =>
  -- what the operation comes to
  have run : ∀ (A : Option Addr) (n cc : Nat), n = es.length → n ≤ cc → vx = .slice A n cc →
      (execOp ρ ⟨some d, .slice xt x lo hi none, ty, pos, aft, g⟩).run P w = .ok (.value (.slice (if cc = a.toNat then A else A.map (·.add (a.toNat * ei.size))) (b.toNat - a.toNat) (cc - a.toNat))) w := by
    intro A n cc hn hc hv
    subst hn
    have q4 : b ≤ (cc : Int) := by omega
    have q3 : 0 ≤ b := by omega
    rcases hlo with ⟨rfl, rfl⟩ | ⟨o1, k1, rfl, g1⟩ <;> rcases hhi with ⟨rfl, rfl⟩ | ⟨o2, k2, rfl, g2⟩
    · simp [execOp, Instr.sliceAt, Instr.slice, Instr.sliceBounds, hvx, hv, run_underlying hu, run_sizeOf hT h3]
    · have f2 := rep_v (by have := st o2 (by simp [Op.operands]); rw [g2] at this; exact this)
      simp [execOp, Instr.sliceAt, Instr.slice, Instr.sliceBounds, Instr.sliceBound, hvx, hv, f2, asIntOf, run_underlying hu, run_sizeOf hT h3, q3, q4]
    · have f1 := rep_v (by have := st o1 (by simp [Op.operands]); rw [g1] at this; exact this)
      simp [execOp, Instr.sliceAt, Instr.slice, Instr.sliceBounds, Instr.sliceBound, hvx, hv, f1, asIntOf, run_underlying hu, run_sizeOf hT h3, q0, q1]
    · have f1 := rep_v (by have := st o1 (by simp [Op.operands]); rw [g1] at this; exact this)
      have f2 := rep_v (by have := st o2 (by simp [Op.operands]); rw [g2] at this; exact this)
      have q5 : a.toNat ≤ b.toNat := by omega
      simp [execOp, Instr.sliceAt, Instr.slice, Instr.sliceBounds, Instr.sliceBound, hvx, hv, f1, f2, asIntOf, run_underlying hu, run_sizeOf hT h3, q0, q1, q3, q4, q5]
      intro hlt; omega
  have hlen : (subL es a b).length = b.toNat - a.toNat := by unfold subL; simp; omega
  generalize hds : es.map c = ds at hd
  cases hd with
  | nil =>
    have : es = [] := List.map_eq_nil_iff.1 hds
    subst this
    simp at q2
    have e1 : a = 0 := by omega
    have e2 : b = 0 := by omega
    subst e1 e2
    refine ⟨_, run none 0 0 rfl (Nat.le_refl _) rfl, ?_⟩
    simp [subL]
    exact .d _ _ .nil
  | emp A cc hm =>
    have : es = [] := List.map_eq_nil_iff.1 hds
    subst this
    simp at q2
    have e1 : a = 0 := by omega
    have e2 : b = 0 := by omega
    subst e1 e2
    refine ⟨_, run A 0 cc rfl (Nat.zero_le _) rfl, ?_⟩
    simp only [subL, List.drop_nil, List.take_nil, List.map_nil]
    exact .d _ _ (.emp _ _ (by omega))
  | sl bk off cc sz es' gg hF hc hm hz hg hr =>
    subst hds
    refine ⟨_, run _ _ cc (by simp) hc rfl, ?_⟩
    by_cases hempty : b.toNat - a.toNat = 0
    · have : subL es a b = [] := List.eq_nil_of_length_eq_zero (by omega)
      rw [this, hempty]
      exact .d _ _ (.emp _ _ (by omega))
    · have hl : 0 < es.length := by omega
      have hsz : sz = ei.size := by
        have := hz 0 (c es[0]) (by simp [hl])
        rw [hcl] at this; omega
      have hne : ¬ cc = a.toNat := by
        have : (es.map c).length = es.length := by simp
        omega
      rw [if_neg hne]
      have hget : ∀ (q : Nat) e, ((subL es a b).map c)[q]? = some e → (es.map c)[a.toNat + q]? = some e := fun q e he => by
        obtain ⟨u, hu', rfl⟩ := by simpa using he
        refine map_at ?_
        unfold subL at hu'
        rw [List.getElem?_take] at hu'
        split at hu'
        · rw [List.getElem?_drop] at hu'; exact hu'
        · cases hu'
      have hl2 : ((subL es a b).map c).length = b.toNat - a.toNat := by simp [hlen]
      rw [← hl2]
      have e3 : (Option.map (fun x => x.add (a.toNat * ei.size)) (some (⟨bk, off, none⟩ : Addr))) = some ⟨bk, off + a.toNat * ei.size, none⟩ := by simp [addr_add]
      rw [e3]
      refine .d _ _ (.sl bk _ _ sz _ (fun q j => gg (a.toNat + q) j) hF ?_ (by omega) (fun q e he => hz _ e (hget q e he)) (fun q e j v he hv => ?_) (fun q e j v he hv => hr _ e j v (hget q e he) hv))
      · have : (es.map c).length = es.length := by simp
        omega
      · have := hg _ e j v (hget q e he) hv
        rw [← this, hsz]
        congr 2
        rw [Nat.add_mul]; omega

theorem wk {t' : Nat → AV} {ss : List Slot} (ks : List Nat) (hnd : ks.Nodup := by decide) (hlt : ∀ k ∈ ks, k < 300 := by decide) (h3 : (List.range L).all (fun p => nameL ks 300 p == p) = true := by decide)
    (hB : Abv h 300 := by repeat (first | exact abv_nil _ | exact abv_lks rfl | refine abv_upd ?_ rfl))
    (wt : WT (nameL ks 300) t t' := by repeat (first | exact WT.nil | refine WT.free_ rfl (by exact rfl) ?_ | refine WT.ren_ (r' := _) rfl (by repeat (first | exact RenRL.nil | apply RenRL.cons | exact RenR.d _ | apply RenR.agg | apply RenR.tup | exact RenR.own _ _ _ _ rfl | exact RenR.of_own (by first | rfl | (simp; done) | omega | (simp; omega)) rfl | exact RenR.ptr _ _ _ _ _ _ rfl | exact RenR.ref _ | apply RenR.fn | exact RenR.dead)) ?_))
    (wh : AtK (nameL ks 300) h ks ss := by repeat (first | exact AtK.nil | refine AtK.data_ (by exact rfl) ?_ | (apply AtK.cons rfl; (first | exact RenS.no | exact RenS.dead | exact RenS.data _ _ _ | exact RenS.nest rfl | exact RenS.fam | (apply RenS.box; (repeat (first | exact RenRL.nil | apply RenRL.cons | exact RenR.d _ | apply RenR.agg | apply RenR.tup | exact RenR.own _ _ _ _ rfl | exact RenR.of_own (by first | rfl | (simp; done) | omega | (simp; omega)) rfl | exact RenR.ptr _ _ _ _ _ _ rfl | exact RenR.ref _ | apply RenR.fn | exact RenR.dead))) | exact RenS.gen _)))) : Weak L N ⟨t, h⟩ ⟨t', lks ss⟩ := wk_of ks 300 hnd hlt h3 hB wt wh
theorem c_callP (ks : List Nat) (B : Nat) {f : FuncId} {x : Operand} {args : Array Operand} {at_ : Array TypeId} {caps as as' : List AV} {hin hout : List Slot} {r r' : AV} (hF : FnC P f hin as hout r) (hx : evA N ⟨t, h⟩ x = .fn f caps) (ha : evL N ⟨t, h⟩ args.toList ++ caps = as')
    (har : RenRL (nameL ks B) as as' := by repeat (first | exact RenRL.nil | apply RenRL.cons | exact RenR.d _ | apply RenR.agg | apply RenR.tup | exact RenR.own _ _ _ _ rfl | exact RenR.of_own (by first | rfl | (simp; done) | omega | (simp; omega)) rfl | exact RenR.ptr _ _ _ _ _ _ rfl | exact RenR.ref _ | apply RenR.fn | exact RenR.dead))
    (hB : Abv h B := by repeat (first | exact abv_nil _ | exact abv_lks rfl | refine abv_upd ?_ rfl)) (hnd : ks.Nodup := by decide) (hlt : ∀ k ∈ ks, k < B := by decide)
    (hk : AtK (nameL ks B) h ks hin := by repeat (first | exact AtK.nil | refine AtK.data_ (by exact rfl) ?_ | (apply AtK.cons rfl; (first | exact RenS.no | exact RenS.dead | exact RenS.data _ _ _ | exact RenS.nest rfl | exact RenS.fam | (apply RenS.box; (repeat (first | exact RenRL.nil | apply RenRL.cons | exact RenR.d _ | apply RenR.agg | apply RenR.tup | exact RenR.own _ _ _ _ rfl | exact RenR.ptr _ _ _ _ _ _ rfl | exact RenR.ref _ | apply RenR.fn | exact RenR.dead))) | exact RenS.gen _))))
    (hb : UpdR (nameL ks B) h ks hout h' := by repeat (first | exact UpdR.nil _ | (apply UpdR.cons; (first | exact RenS.no | exact RenS.dead | exact RenS.data _ _ _ | exact RenS.nest rfl | exact RenS.fam | (apply RenS.box; (repeat (first | exact RenRL.nil | apply RenRL.cons | exact RenR.d _ | apply RenR.agg | apply RenR.tup | exact RenR.own _ _ _ _ rfl | exact RenR.ptr _ _ _ _ _ _ rfl | exact RenR.ref _ | apply RenR.fn | exact RenR.dead))) | exact RenS.gen _))))
    (hr : RenR (nameL ks B) r r' := by repeat (first | exact RenRL.nil | apply RenRL.cons | exact RenR.d _ | apply RenR.agg | apply RenR.tup | exact RenR.own _ _ _ _ rfl | exact RenR.ptr _ _ _ _ _ _ rfl | exact RenR.ref _ | apply RenR.fn | exact RenR.dead)) :
    Heavy1 P N ⟨dst, .call ⟨.value x, args, at_⟩, ty, pos, aft, g⟩ ⟨t, h⟩ r' h' := wr_callP ks B hx ha har hF hB hnd hlt hk hb hr
theorem ret0_ {fn : Func} {rs : List ResultVar} {as : List AV} {r : AV} (hrs : fn.results.toList = rs)
    (R : ResR T N ⟨t, h⟩ rs as := by repeat (first | exact ResR.nil | apply ResR.tmp (a := .d _) rfl | apply ResR.tmp (a := .own _ _ _) rfl | apply ResR.tmp (a := .agg _) rfl | apply ResR.tmp (a := .ref _) rfl | apply ResR.tmp (a := .ptr _ _ _ _ _) rfl | apply ResR.cell1 rfl rfl rfl rfl (by first | rfl) (by first | rfl) rfl | apply ResR.cellN rfl rfl rfl rfl (by first | rfl) (by first | rfl) (by repeat (first | exact Seg.z _ | apply Seg.t | apply Seg.d))))
    (hB : Abv h 300 := by repeat (first | exact abv_nil _ | exact abv_lks rfl | refine abv_upd ?_ rfl)) (e : resA as = r := by rfl) (hf : r.free = true := by rfl) : RetOk T N fn 0 [] r ⟨t, h⟩ := ret0 300 hrs R hB hf e
theorem retK_ {fn : Func} {rs : List ResultVar} {as : List AV} {r : AV} {hout : List Slot} (ks : List Nat) (hrs : fn.results.toList = rs)
    (R : ResR T N ⟨t, h⟩ rs as := by repeat (first | exact ResR.nil | apply ResR.tmp (a := .d _) rfl | apply ResR.tmp (a := .own _ _ _) rfl | apply ResR.tmp (a := .agg _) rfl | apply ResR.tmp (a := .ref _) rfl | apply ResR.tmp (a := .ptr _ _ _ _ _) rfl | apply ResR.cell1 rfl rfl rfl rfl (by first | rfl) (by first | rfl) rfl | apply ResR.cellN rfl rfl rfl rfl (by first | rfl) (by first | rfl) (by repeat (first | exact Seg.z _ | apply Seg.t | apply Seg.d))))
    (hB : Abv h 300 := by repeat (first | exact abv_nil _ | exact abv_lks rfl | refine abv_upd ?_ rfl)) (hnd : ks.Nodup := by decide) (hlt : ∀ k ∈ ks, k < 300 := by decide)
    (hk : AtK (nameL ks 300) h ks hout := by repeat (first | exact AtK.nil | refine AtK.data_ (by exact rfl) ?_ | (apply AtK.cons rfl; (first | exact RenS.no | exact RenS.dead | exact RenS.data _ _ _ | exact RenS.nest rfl | exact RenS.fam | exact RenS.gen _))))
    (e : RenR (nameL ks 300) r (resA as) := by repeat (first | exact RenRL.nil | apply RenRL.cons | exact RenR.d _ | apply RenR.agg | apply RenR.tup | exact RenR.own _ _ _ _ rfl | exact RenR.of_own (by first | rfl | (simp; done) | omega | (simp; omega)) rfl | exact RenR.ptr _ _ _ _ _ _ rfl | exact RenR.ref _ | apply RenR.fn | exact RenR.dead)) : RetOk T N fn 0 hout r ⟨t, h⟩ := retK ks 300 hrs R hB hnd hlt hk e.eq_
theorem retP_ {fn : Func} {rs : List ResultVar} {as : List AV} {r : AV} {hout : List Slot} (m : Nat) (hm : Nat.beq hout.length m = true) (hrs : fn.results.toList = rs)
    (R : ResR T N ⟨t, h⟩ rs as := by repeat (first | exact ResR.nil | apply ResR.tmp (a := .d _) rfl | apply ResR.tmp (a := .own _ _ _) rfl | apply ResR.tmp (a := .agg _) rfl | apply ResR.tmp (a := .ref _) rfl | apply ResR.tmp (a := .ptr _ _ _ _ _) rfl | apply ResR.cell1 rfl rfl rfl rfl (by first | rfl) (by first | rfl) rfl | apply ResR.cellN rfl rfl rfl rfl (by first | rfl) (by first | rfl) (by repeat (first | exact Seg.z _ | apply Seg.t | apply Seg.d))))
    (hB : Abv h 300 := by repeat (first | exact abv_nil _ | exact abv_lks rfl | refine abv_upd ?_ rfl)) (hlt : Nat.blt m 300 = true := by rfl)
    (hk : AtK (nameL (List.range m) 300) h (List.range m) hout := by repeat (first | exact AtK.nil | refine AtK.data_ (by exact rfl) ?_ | (apply AtK.cons rfl; (first | exact RenS.no | exact RenS.dead | exact RenS.data _ _ _ | exact RenS.nest rfl | exact RenS.fam | (apply RenS.box; (repeat (first | exact RenRL.nil | apply RenRL.cons | exact RenR.d _ | apply RenR.agg | apply RenR.tup | exact RenR.own _ _ _ _ rfl | exact RenR.ptr _ _ _ _ _ _ rfl | exact RenR.ref _ | apply RenR.fn | exact RenR.dead))) | exact RenS.gen _))))
    (e : RenR (nameL (List.range m) 300) r (resA as) := by repeat (first | exact RenRL.nil | apply RenRL.cons | exact RenR.d _ | apply RenR.agg | apply RenR.tup | exact RenR.own _ _ _ _ rfl | exact RenR.ptr _ _ _ _ _ _ rfl | exact RenR.ref _ | apply RenR.fn | exact RenR.dead)) : RetOk T N fn m hout r ⟨t, h⟩ := retP m 300 hm hrs R hB hlt hk e.eq_
end
end Go.Proofs.YtlakbomkpnlidaaGreat
namespace Go.Proofs.YtlakbomkpnlidaaGreat
open Go.RowKit
set_option linter.unusedVariables false
set_option maxRecDepth 100000
def bytesL (s : ByteArray) : List Int := s.data.toList.map fun b => (b.toNat : Int)
theorem bytesL_len (s : ByteArray) : (bytesL s).length = s.size := by simp [bytesL]
section
variable {P : Program} {T : Tab} {L N : Nat} {ops : Array Oper} {E : Env} {K : List (Nat × Cls) → AS → Prop} {i : Nat} {is : List Nat} {t : Nat → AV} {h h' : Heap} {d : Tmp} {dst : Option Tmp} {op : Op} {ty : TypeId} {pos : String} {aft : Array Edge} {g : Option (Nat × Bool)} {Q : AExit → AS → Prop} {σ : AS} {x y : Operand}

theorem cv_sb (hT : TOk P T) {st_ dt e : TypeId} {s : ByteArray} {d1 d2 d3 : TI} (hb : s.size ≤ 140737488355328) (hx : evA N ⟨t, h⟩ x = .d (.v (.string s))) (h1 : T st_ = some d1) (e1 : d1.desc = .string) (h2 : T dt = some d2) (e2 : d2.desc = .slice e) (h3 : T e = some d3) (e3 : d3.desc = .int .u8) :
    Heavy1 P N ⟨some d, .convert st_ dt x, ty, pos, aft, g⟩ ⟨t, h⟩ (.d (.sl ((bytesL s).map cU8))) h ∧ ∀ k', h k' ≠ .no → h k' = h k' := by
  refine ⟨fun E F μ w ρ H st => ?_, fun _ _ => rfl⟩
  have f1 := rep_v (by have := st x (by simp [Op.operands]); rw [hx] at this; exact this)
  have u1 := (hT _ _ h1).1
  rw [e1] at u1
  have u2 := (hT _ _ h2).1
  rw [e2] at u2
  have u3 := (hT _ _ h3).1
  rw [e3] at u3
  have hrun := run_bytes_of_string (P := P) w st_ dt e s u1 u2 u3
  have e4 : (execOp ρ ⟨some d, .convert st_ dt x, ty, pos, aft, g⟩).run P w = .ok (.value (.slice (some ⟨w.heap.size, 0, none⟩) s.size (grownCap w s.size 0 e))) (w.drew.alloc (.cells (bytesRow s (grownCap w s.size 0 e)) e ((bytesRow s (grownCap w s.size 0 e)).size, (bytesRow s (grownCap w s.size 0 e)).size + 1))) := by
    simp only [execOp, f1]
    rw [Sem.run_bind, hrun]; rfl
  rw [e4]
  have hge := grownCap_ge w s.size 0 e
  have hcm := grownCap_le_maxLen w s.size 0 e (by unfold maxLen; omega)
  obtain ⟨H1, V1⟩ := H.drew
  obtain ⟨H', V⟩ := H1.ice (.cells (bytesRow s (grownCap w s.size 0 e)) e ((bytesRow s (grownCap w s.size 0 e)).size, (bytesRow s (grownCap w s.size 0 e)).size + 1))
  refine ⟨_, μ, H', V1.trans V, .d _ _ ?_⟩
  have hl : ((bytesL s).map cU8).length = s.size := by rw [List.length_map, bytesL_len]
  have hat : ∀ (q : Nat) (ed : List DV), ((bytesL s).map cU8)[q]? = some ed → ∃ b : UInt8, s.data[q]? = some b ∧ ed = [.v (.int .u8 (b.toNat : Int))] := fun q ed hq => by
    simp only [List.getElem?_map, bytesL] at hq
    obtain ⟨v, hv, rfl⟩ := Option.map_eq_some_iff.1 hq
    obtain ⟨b, hb, rfl⟩ := Option.map_eq_some_iff.1 hv
    exact ⟨b, by simpa using hb, rfl⟩
  have hsl : DRep (w.drew.alloc (.cells (bytesRow s (grownCap w s.size 0 e)) e ((bytesRow s (grownCap w s.size 0 e)).size, (bytesRow s (grownCap w s.size 0 e)).size + 1))) (fun b => F b ∨ b = w.drew.heap.size) (.slice (some ⟨w.heap.size, 0, none⟩) ((bytesL s).map cU8).length (grownCap w s.size 0 e)) (.sl ((bytesL s).map cU8)) := by
    refine .sl w.heap.size 0 _ 1 _ (fun i j => .int .u8 (((s.data[i]?).getD 0).toNat : Int)) (.inr rfl) (by omega) hcm (fun q ed hq => ?_) (fun q ed j v hq hv => ?_) (fun q ed j v hq hv => ?_)
    · obtain ⟨b, _, rfl⟩ := hat q ed hq; rfl
    · obtain ⟨b, hb, rfl⟩ := hat q ed hq
      have hj : j = 0 := by
        cases j with
        | zero => rfl
        | succ j => simp at hv
      subst hj
      have hcr := cell_of_row _ w.heap.size (0 + q * 1 + 0) (bytesRow s (grownCap w s.size 0 e)) e _ (Go.heap_alloc_new w.drew (.cells (bytesRow s (grownCap w s.size 0 e)) e ((bytesRow s (grownCap w s.size 0 e)).size, (bytesRow s (grownCap w s.size 0 e)).size + 1)))
      rw [hcr]
      have hlt : q < s.data.size := (Array.getElem?_eq_some_iff.1 hb).1
      simp only [Nat.zero_add, Nat.mul_one, Nat.add_zero, bytesRow, hb, Option.getD_some]
      rw [Array.getElem?_append_left (by simpa using hlt), Array.getElem?_map, hb]; rfl
    · obtain ⟨b, hb, rfl⟩ := hat q ed hq
      have hj : j = 0 := by
        cases j with
        | zero => rfl
        | succ j => simp at hv
      subst hj
      simp at hv
      subst hv
      simp only [hb, Option.getD_some]
      exact .v _ rfl
  rw [hl] at hsl
  exact hsl
theorem cv_reads (hT : TOk P T) {st_ dt e : TypeId} {xs : List Int} {d1 d2 d3 : TI} (h1 : T st_ = some d1) (e1 : d1.desc = .slice e) (h2 : T dt = some d2) (e2 : d2.desc = .string) (h3 : T e = some d3) (e3 : d3.desc = .int .u8) {F : Nat → Prop} {μ : Places} {hh : Heap} {w : World} {v : Value}
    (hr : ReadsAs w F μ hh v 1 (.data (xs.map cU8))) : (convert st_ dt v).run P w = .ok (.string (strOfNums xs)) w := by
  have u1 := (hT _ _ h1).1
  rw [e1] at u1
  have u2 := (hT _ _ h2).1
  rw [e2] at u2
  have u3 := (hT _ _ h3).1
  rw [e3] at u3
  obtain ⟨A, c, rfl, hrd⟩ := hr
  have hlen : (Cells.data (xs.map cU8)).len = xs.length := rows_len
  rcases hrd with h0 | ⟨b, off, rfl, hrd⟩
  · rw [hlen] at h0
    have : xs = [] := List.eq_nil_of_length_eq_zero h0
    subst this
    cases A with
    | none => rw [run_convert_bytes_nil w st_ e u1 u3 _ _ dt u2]; rfl
    | some a =>
      have := run_convert_bytes_string (P := P) w st_ dt e (some a) 0 c u1 u3 u2
      have e4 := run_bytesToString (P := P) w a 0 c [] (by have := run_loadCells_list (P := P) w a [] (fun j v hv => by simp at hv); simpa using this)
      simp only [Cells.len, List.map_nil, List.length_nil] at *
      rw [this, e4]; rfl
  · rw [hlen]
    refine run_convert_bytes_arg w st_ e u1 u3 b off xs.length c xs rfl (fun q hq => ?_) dt u2
    obtain ⟨_, h5⟩ := hrd q ((cU8 xs[q]).map .d) (rows_get (List.getElem?_eq_getElem hq))
    obtain ⟨u, hu, _, hr⟩ := h5 0 (.d (.v (.int .u8 xs[q]))) rfl
    have hru : u = .int .u8 xs[q] := rep_v hr
    rw [Nat.mul_one, Nat.add_zero] at hu
    rw [hu, hru]
    simp [List.getD, List.getElem?_eq_getElem hq]
theorem cv_bo (hT : TOk P T) {st_ dt e bt : TypeId} {k n sz : Nat} {xs : List Int} {d1 d2 d3 : TI} (hx : evA N ⟨t, h⟩ x = .own k 0 n) (h1 : T st_ = some d1) (e1 : d1.desc = .slice e) (h2 : T dt = some d2) (e2 : d2.desc = .string) (h3 : T e = some d3) (e3 : d3.desc = .int .u8) (hk : h k = .live [⟨bt, sz, .data (xs.map cU8)⟩]) (hn : n = xs.length) (hs : sz = 1) :
    Heavy1 P N ⟨some d, .convert st_ dt x, ty, pos, aft, g⟩ ⟨t, h⟩ (.d (.v (.string (strOfNums xs)))) h ∧ ∀ k', h k' ≠ .no → h k' = h k' := by
  subst hn hs
  refine ⟨fun E F μ w ρ H st => ?_, fun _ _ => rfl⟩
  have hr := st x (by simp [Op.operands])
  rw [hx] at hr
  have := cv_reads (P := P) hT h1 e1 h2 e2 h3 e3 (reads_own H hr (lv_of hk) rows_len trivial)
  have e4 : (execOp ρ ⟨some d, .convert st_ dt x, ty, pos, aft, g⟩).run P w = .ok (.value (.string (strOfNums xs))) w := by
    simp only [execOp]
    rw [Sem.run_bind, this]; rfl
  rw [e4]
  exact ⟨F, μ, H, Evo.refl_, .d _ _ (.v _ rfl)⟩
theorem rt_wkd {k0 : Nat} {s : Slot} {r : AV} (ho : ops[i]? = some ⟨some d, op, ty, pos, aft, g⟩) (hw : Want N ops ⟨some d, op, ty, pos, aft, g⟩ ⟨t, h⟩) (hd : Nat.blt d N = true) (hp : Heavy1 P N ⟨some d, op, ty, pos, aft, g⟩ ⟨t, h⟩ r (upd h k0 s))
    (k : RT P N ops is (fun l σ' => K ((i, .wk k0) :: l) σ') ⟨updA t d r, upd h k0 s⟩) : RT P N ops (i :: is) K ⟨t, h⟩ := rt_cons ho (.wk k0 (dN hd) hw r _ hp fun p hp => upd_ne _ _ hp) k
end
end Go.Proofs.YtlakbomkpnlidaaGreat
namespace Go.Proofs.YtlakbomkpnlidaaGreat
open Go.RowKit
set_option linter.unusedVariables false
set_option maxRecDepth 100000
section
variable {P : Program} {T : Tab} {L N : Nat} {ops : Array Oper} {E : Env} {K : List (Nat × Cls) → AS → Prop} {i : Nat} {is : List Nat} {t : Nat → AV} {h h' : Heap} {d : Tmp} {dst : Option Tmp} {op : Op} {ty : TypeId} {pos : String} {aft : Array Edge} {g : Option (Nat × Bool)} {Q : AExit → AS → Prop} {σ : AS} {x y : Operand}

end
end Go.Proofs.YtlakbomkpnlidaaGreat
namespace Go.Proofs.YtlakbomkpnlidaaGreat
open Go.RowKit
set_option linter.unusedVariables false
set_option maxRecDepth 100000
section
variable {P : Program} {T : Tab} {L N : Nat} {ops : Array Oper} {E : Env} {K : List (Nat × Cls) → AS → Prop} {i : Nat} {is : List Nat} {t : Nat → AV} {h h' : Heap} {d : Tmp} {dst : Option Tmp} {op : Op} {ty : TypeId} {pos : String} {aft : Array Edge} {g : Option (Nat × Bool)} {Q : AExit → AS → Prop} {σ : AS} {c : Code} {x y : Operand}
theorem weak_pre {d : Nat} {cs ds : List DV} (hd : t d = .ref cs) (hp : Pre cs ds) : Weak L N ⟨t, h⟩ ⟨updA t d (.ref ds), h⟩ := by
  rintro E a w ⟨F, μ, A⟩
  refine ⟨F, μ, A.H, A.df, A.sz, fun d' hd' => ?_, A.lim⟩
  by_cases e : d' = d
  · subst e
    have h1 := A.tm d' hd'
    dsimp only at h1 ⊢
    rw [hd] at h1
    rw [updA_same]
    have hp' : ∀ (j : Nat) (x : DV), ds[j]? = some x → cs[j]? = some x := by
      cases view_ref (h := h) hp with | ref _ _ q => exact q
    generalize a.tmps.getD d' undef = v at h1
    cases h1 with | ref b off cs g hF hg hr => exact .ref b off ds g hF (fun j x hx => hg j x (hp' j x hx)) fun j x hx => hr j x (hp' j x hx)
  · dsimp only; rw [updA_ne _ _ e]
    exact A.tm d' hd'
theorem aw_slice {d : Nat} {es : List (List DV)} (hN : Nat.blt d N = true) (hd : t d = .d (.sl es)) (h1 : es ≠ [] → AW L P N c Q ⟨t, h⟩) (h2 : es = [] → ∀ (A : Option Addr) (k : Nat), k ≤ maxLen → AW L P N c Q ⟨updA t d (.d (.v (.slice A 0 k))), h⟩) : AW L P N c Q ⟨t, h⟩ := fun E a w A => by
  by_cases e : es = []
  · subst e
    obtain ⟨F, μ, A⟩ := A
    have hdN : d < N := blt_lt hN
    obtain ⟨X, k, hk, hv⟩ : ∃ (X : Option Addr) (k : Nat), k ≤ maxLen ∧ a.tmps.getD d undef = .slice X 0 k := by
      have h3 := A.tm d hdN
      dsimp only at h3
      rw [hd] at h3
      generalize a.tmps.getD d undef = v at h3
      cases h3 with | d _ _ h3 =>
      cases h3 with
      | nil => exact ⟨none, 0, by unfold maxLen; omega, rfl⟩
      | emp X k hk => exact ⟨X, k, hk, rfl⟩
      | sl b off k sz _ gg hF hc hm hz hg hr => exact ⟨_, k, hm, rfl⟩
    refine h2 rfl X k hk E a w ⟨F, μ, A.H, A.df, A.sz, fun d' hd' => ?_, A.lim⟩
    by_cases e : d' = d
    · subst e
      dsimp only
      rw [updA_same, hv]
      exact .d _ _ (.v _ rfl)
    · dsimp only; rw [updA_ne _ _ e]
      exact A.tm d' hd'
  · exact h1 e E a w A
theorem weak_emp {d : Nat} {A : Option Addr} {k : Nat} (hd : t d = .d (.v (.slice A 0 k))) (hk : k ≤ maxLen) : Weak L N ⟨t, h⟩ ⟨updA t d (.d (.sl [])), h⟩ := by
  rintro E a w ⟨F, μ, A⟩
  refine ⟨F, μ, A.H, A.df, A.sz, fun d' hd' => ?_, A.lim⟩
  by_cases e : d' = d
  · subst e
    have h1 := A.tm d' hd'
    dsimp only at h1 ⊢
    rw [hd] at h1
    rw [updA_same, rep_v h1]
    exact .d _ _ (.emp _ _ hk)
  · dsimp only; rw [updA_ne _ _ e]
    exact A.tm d' hd'
theorem weak_emp_ {α : Type} (c : α → List DV) {d : Nat} {A : Option Addr} {k : Nat} (hd : t d = .d (.v (.slice A 0 k))) (hk : k ≤ maxLen) : Weak L N ⟨t, h⟩ ⟨updA t d (.d (.sl (List.map c []))), h⟩ := weak_emp hd hk
theorem pu_eqnil_v (hT : TOk P T) {xt e : TypeId} {ti : TI} {A : Option Addr} {n k : Nat} {yt : TypeId} (hx : evA N ⟨t, h⟩ x = .d (.v (.slice A n k))) (h1 : T xt = some ti) (h2 : ti.desc = .slice e) (hy : evA N ⟨t, h⟩ y = .d (.v (.slice none 0 0))) :
    Pure1 P N ⟨some d, .binOp .eql xt x y yt, ty, pos, aft, g⟩ ⟨t, h⟩ (.d (.v (.bool A.isNone))) := fun w F μ hh ρ st => by
  have hr := rep_v (by have := st x (by simp [Op.operands]); rw [hx] at this; exact this)
  have hr2 := rep_v (by have := st y (by simp [Op.operands]); rw [hy] at this; exact this)
  have hu := (hT _ _ h1).1
  rw [h2] at hu
  refine ⟨.bool A.isNone, ?_, .d _ _ (.v _ rfl)⟩
  simp [execOp, hr, hr2, eqGuard, binOp, Go.run_equal_slice_nil w xt e A n k hu]
theorem pu_eqnil_ne (hT : TOk P T) {xt e : TypeId} {ti : TI} {es : List (List DV)} {yt : TypeId} (hx : evA N ⟨t, h⟩ x = .d (.sl es)) (hne : es ≠ []) (h1 : T xt = some ti) (h2 : ti.desc = .slice e) (hy : evA N ⟨t, h⟩ y = .d (.v (.slice none 0 0))) :
    Pure1 P N ⟨some d, .binOp .eql xt x y yt, ty, pos, aft, g⟩ ⟨t, h⟩ (.d (.v (.bool false))) := fun w F μ hh ρ st => by
  have hr := st x (by simp [Op.operands])
  rw [hx] at hr
  have hr2 := rep_v (by have := st y (by simp [Op.operands]); rw [hy] at this; exact this)
  have hu := (hT _ _ h1).1
  rw [h2] at hu
  refine ⟨.bool false, ?_, .d _ _ (.v _ rfl)⟩
  generalize hv : ρ x = v at hr
  cases hr with | d _ _ hd =>
  cases hd with
  | nil => exact absurd rfl hne
  | emp A c hm => exact absurd rfl hne
  | sl b off c sz es gg hF hc hm hz hg hr => simp [execOp, hv, hr2, eqGuard, binOp, Go.run_equal_slice_nil w xt e _ _ _ hu]
theorem pu_max3 {k : IntKind} {a b e : Int} {z : Operand} {at_ : Array TypeId} (hx : evA N ⟨t, h⟩ x = .d (.v (.int k a))) (hy : evA N ⟨t, h⟩ y = .d (.v (.int k b))) (hz : evA N ⟨t, h⟩ z = .d (.v (.int k e))) : Pure1 P N ⟨some d, .call ⟨.builtin .max, #[x, y, z], at_⟩, ty, pos, aft, g⟩ ⟨t, h⟩ (.d (.v (.int k (max (max a b) e)))) := fun w F μ hh ρ st => by
  have h1 := rep_v (by have := st x (by simp [Op.operands, Call.operands]); rw [hx] at this; exact this)
  have h2 := rep_v (by have := st y (by simp [Op.operands, Call.operands]); rw [hy] at this; exact this)
  have h3 := rep_v (by have := st z (by simp [Op.operands, Call.operands]); rw [hz] at this; exact this)
  refine ⟨.int k (max (max a b) e), ?_, .d _ _ (.v _ rfl)⟩
  have q1 : ∀ a b : Int, (if a < b then b else a) = max a b := fun a b => by split <;> omega
  simp [execOp, resolve, invoke, builtin, h1, h2, h3, Builtin.max_, Builtin.max2, q1]
inductive PreL2 : List AV → List AV → Prop
  | nil : PreL2 [] []
  | same (a : AV) {as bs : List AV} (k : PreL2 as bs) : PreL2 (a :: as) (a :: bs)
  | pre {cs ds : List DV} {as bs : List AV} (hp : Pre cs ds) (k : PreL2 as bs) : PreL2 (.ref cs :: as) (.ref ds :: bs)
theorem pre_rep {w : World} {F : Nat → Prop} {μ : Places} {hh : Heap} {v : Value} {cs ds : List DV} (hp : Pre cs ds) (r : ARep w F μ hh v (.ref cs)) : ARep w F μ hh v (.ref ds) := by
  have hp' : ∀ (j : Nat) (x : DV), ds[j]? = some x → cs[j]? = some x := by
    cases view_ref (h := hh) hp with | ref _ _ q => exact q
  cases r with | ref b off cs g hF hg hr => exact .ref b off ds g hF (fun j x hx => hg j x (hp' j x hx)) fun j x hx => hr j x (hp' j x hx)
theorem PreL2.spec {as bs : List AV} (p : PreL2 as bs) : as.length = bs.length ∧ ∀ (i : Nat) b, bs[i]? = some b → ∃ a, as[i]? = some a ∧ (a = b ∨ ∃ cs ds, a = .ref cs ∧ b = .ref ds ∧ Pre cs ds) := by
  induction p with
  | nil => exact ⟨rfl, fun i b h => by simp at h⟩
  | same a k ih =>
    refine ⟨by simp [ih.1], fun i b h => ?_⟩
    cases i with
    | zero => simp at h; exact ⟨a, by simp, .inl h⟩
    | succ i => simpa using ih.2 i b (by simpa using h)
  | @pre cs ds as bs hp k ih =>
    refine ⟨by simp [ih.1], fun i b h => ?_⟩
    cases i with
    | zero => simp at h; exact ⟨.ref cs, by simp, .inr ⟨cs, ds, rfl, h.symm, hp⟩⟩
    | succ i => simpa using ih.2 i b (by simpa using h)
theorem fnc_pre {f : FuncId} {hin hout : List Slot} {as as' : List AV} {r : AV} (hF : FnC P f hin as hout r) (p : PreL2 as' as := by repeat (first | exact PreL2.nil | apply PreL2.same | (apply PreL2.pre (by repeat (first | exact Pre.z _ | apply Pre.t))))) : FnC P f hin as' hout r := by
  refine ⟨hF.c, fun w F μ vs gl H hs hr => hF.g w F μ vs gl H (hs.trans p.spec.1) fun i v a hv ha => ?_⟩
  obtain ⟨a', h1, rfl | ⟨cs, ds, rfl, rfl, hp⟩⟩ := p.spec.2 i a ha
  · exact hr i v _ hv h1
  · exact pre_rep hp (hr i v _ hv h1)
theorem pa {r : DV} (k : RA L P N ops is Q ⟨updA t d (.d r), h⟩) (ho : ops[i]? = some ⟨some d, .assign x, ty, pos, aft, none⟩ := by exact rfl) (hd : Nat.blt d N = true := by exact rfl) (hx : evA N ⟨t, h⟩ x = .d r := by exact rfl) : RA L P N ops (i :: is) Q ⟨t, h⟩ := rp ho w0 hd (pu_assign hx) k
theorem tpa {r : DV} (k : RT P N ops is (fun l σ' => K ((i, .pu) :: l) σ') ⟨updA t d (.d r), h⟩) (ho : ops[i]? = some ⟨some d, .assign x, ty, pos, aft, none⟩ := by exact rfl) (hd : Nat.blt d N = true := by exact rfl) (hx : evA N ⟨t, h⟩ x = .d r := by exact rfl) : RT P N ops (i :: is) K ⟨t, h⟩ := rt_p ho w0 hd (pu_assign hx) k
theorem par {r : List DV} (k : RA L P N ops is Q ⟨updA t d (.ref r), h⟩) (ho : ops[i]? = some ⟨some d, .assign x, ty, pos, aft, none⟩ := by exact rfl) (hd : Nat.blt d N = true := by exact rfl) (hx : evA N ⟨t, h⟩ x = .ref r := by exact rfl) : RA L P N ops (i :: is) Q ⟨t, h⟩ := rp ho w0 hd (pu_assign hx) k
theorem pm {r : DV} (k : RA L P N ops is Q ⟨updA t d (.d r), h⟩) (ho : ops[i]? = some ⟨some d, .move x, ty, pos, aft, none⟩ := by exact rfl) (hd : Nat.blt d N = true := by exact rfl) (hx : evA N ⟨t, h⟩ x = .d r := by exact rfl) : RA L P N ops (i :: is) Q ⟨t, h⟩ := rp ho w0 hd (pu_move hx) k
theorem tpm {r : DV} (k : RT P N ops is (fun l σ' => K ((i, .pu) :: l) σ') ⟨updA t d (.d r), h⟩) (ho : ops[i]? = some ⟨some d, .move x, ty, pos, aft, none⟩ := by exact rfl) (hd : Nat.blt d N = true := by exact rfl) (hx : evA N ⟨t, h⟩ x = .d r := by exact rfl) : RT P N ops (i :: is) K ⟨t, h⟩ := rt_p ho w0 hd (pu_move hx) k
theorem pmr {r : List DV} (k : RA L P N ops is Q ⟨updA t d (.ref r), h⟩) (ho : ops[i]? = some ⟨some d, .move x, ty, pos, aft, none⟩ := by exact rfl) (hd : Nat.blt d N = true := by exact rfl) (hx : evA N ⟨t, h⟩ x = .ref r := by exact rfl) : RA L P N ops (i :: is) Q ⟨t, h⟩ := rp ho w0 hd (pu_move hx) k
theorem tpmr {r : List DV} (k : RT P N ops is (fun l σ' => K ((i, .pu) :: l) σ') ⟨updA t d (.ref r), h⟩) (ho : ops[i]? = some ⟨some d, .move x, ty, pos, aft, none⟩ := by exact rfl) (hd : Nat.blt d N = true := by exact rfl) (hx : evA N ⟨t, h⟩ x = .ref r := by exact rfl) : RT P N ops (i :: is) K ⟨t, h⟩ := rt_p ho w0 hd (pu_move hx) k
theorem pkt {z : Operand} {r : DV} (k : RA L P N ops is Q ⟨updA t d (.d r), h⟩) (ho : ops[i]? = some ⟨some d, .pick z x y, ty, pos, aft, none⟩ := by exact rfl) (hd : Nat.blt d N = true := by exact rfl) (hz : evA N ⟨t, h⟩ z = .d (.v (.bool true)) := by exact rfl) (hx : evA N ⟨t, h⟩ x = .d r := by exact rfl) : RA L P N ops (i :: is) Q ⟨t, h⟩ := rp ho w0 hd (pu_pick_t hz hx) k
theorem tpkt {z : Operand} {r : DV} (k : RT P N ops is (fun l σ' => K ((i, .pu) :: l) σ') ⟨updA t d (.d r), h⟩) (ho : ops[i]? = some ⟨some d, .pick z x y, ty, pos, aft, none⟩ := by exact rfl) (hd : Nat.blt d N = true := by exact rfl) (hz : evA N ⟨t, h⟩ z = .d (.v (.bool true)) := by exact rfl) (hx : evA N ⟨t, h⟩ x = .d r := by exact rfl) : RT P N ops (i :: is) K ⟨t, h⟩ := rt_p ho w0 hd (pu_pick_t hz hx) k
theorem pkf {z : Operand} {r : DV} (k : RA L P N ops is Q ⟨updA t d (.d r), h⟩) (ho : ops[i]? = some ⟨some d, .pick z x y, ty, pos, aft, none⟩ := by exact rfl) (hd : Nat.blt d N = true := by exact rfl) (hz : evA N ⟨t, h⟩ z = .d (.v (.bool false)) := by exact rfl) (hx : evA N ⟨t, h⟩ y = .d r := by exact rfl) : RA L P N ops (i :: is) Q ⟨t, h⟩ := rp ho w0 hd (pu_pick_f hz hx) k
theorem tpkf {z : Operand} {r : DV} (k : RT P N ops is (fun l σ' => K ((i, .pu) :: l) σ') ⟨updA t d (.d r), h⟩) (ho : ops[i]? = some ⟨some d, .pick z x y, ty, pos, aft, none⟩ := by exact rfl) (hd : Nat.blt d N = true := by exact rfl) (hz : evA N ⟨t, h⟩ z = .d (.v (.bool false)) := by exact rfl) (hx : evA N ⟨t, h⟩ y = .d r := by exact rfl) : RT P N ops (i :: is) K ⟨t, h⟩ := rt_p ho w0 hd (pu_pick_f hz hx) k
theorem nr {r : List DV} (k : RA L P N ops is Q ⟨updA t d (.ref r), h⟩) (ho : ops[i]? = some ⟨some d, .nilCheck x, ty, pos, aft, none⟩ := by exact rfl) (hd : Nat.blt d N = true := by exact rfl) (hx : evA N ⟨t, h⟩ x = .ref r := by exact rfl) : RA L P N ops (i :: is) Q ⟨t, h⟩ := rp ho w0 hd (pu_nil_ref hx) k
theorem tnr {r : List DV} (k : RT P N ops is (fun l σ' => K ((i, .pu) :: l) σ') ⟨updA t d (.ref r), h⟩) (ho : ops[i]? = some ⟨some d, .nilCheck x, ty, pos, aft, none⟩ := by exact rfl) (hd : Nat.blt d N = true := by exact rfl) (hx : evA N ⟨t, h⟩ x = .ref r := by exact rfl) : RT P N ops (i :: is) K ⟨t, h⟩ := rt_p ho w0 hd (pu_nil_ref hx) k
theorem fa (hT : TOk P T) {s bt : TypeId} {q kk e sz : Nat} {cells : List AV} {ti fi : TI} {fs : Array Field} {fld : Field} (k : RA L P N ops is Q ⟨updA t d (.ptr kk 0 1 0 (e + fld.offset)), h⟩) (ho : ops[i]? = some ⟨some d, .fieldAddr s x q, ty, pos, aft, none⟩ := by exact rfl) (hd : Nat.blt d N = true := by exact rfl) (hx : evA N ⟨t, h⟩ x = .ptr kk 0 1 0 e := by exact rfl) (h1 : T s = some ti := by exact rfl) (h2 : ti.desc = .struct fs := by exact rfl) (h3 : fs[q]? = some fld := by exact rfl) (h4 : T fld.type = some fi := by exact rfl) (h5 : Nat.beq fi.size 0 = false := by exact rfl) (hk : h kk = .live [⟨bt, sz, .av [cells]⟩] := by exact rfl) : RA L P N ops (i :: is) Q ⟨t, h⟩ := rl ho w0 hd (bx_fa hT hx h1 h2 h3 h4 h5 hk) k
theorem ld (hT : TOk P T) {lt bt : TypeId} {kk e sz : Nat} {cells : List AV} {c0 : AV} {ti : TI} (k : RA L P N ops is Q ⟨updA t d c0, h⟩) (ho : ops[i]? = some ⟨some d, .load lt x, ty, pos, aft, none⟩ := by exact rfl) (hd : Nat.blt d N = true := by exact rfl) (hx : evA N ⟨t, h⟩ x = .ptr kk 0 1 0 e := by exact rfl) (h1 : T lt = some ti := by exact rfl) (h2 : isRow ti.desc = false := by exact rfl) (hk : h kk = .live [⟨bt, sz, .av [cells]⟩] := by exact rfl) (hc : cells[e]? = some c0 := by exact rfl) : RA L P N ops (i :: is) Q ⟨t, h⟩ := rl ho w0 hd (bx_ld1 hT hx h1 h2 hk hc) k
theorem fr (hT : TOk P T) {s : TypeId} {q : Nat} {cs out : List DV} {ti fi : TI} {fs : Array Field} {fld : Field} (k : RA L P N ops is Q ⟨updA t d (.ref out), h⟩) (ho : ops[i]? = some ⟨some d, .fieldAddr s x q, ty, pos, aft, none⟩ := by exact rfl) (hd : Nat.blt d N = true := by exact rfl) (hx : evA N ⟨t, h⟩ x = .ref cs := by exact rfl) (h1 : T s = some ti := by exact rfl) (h2 : ti.desc = .struct fs := by exact rfl) (h3 : fs[q]? = some fld := by exact rfl) (h4 : T fld.type = some fi := by exact rfl) (h5 : Nat.beq fi.size 0 = false := by exact rfl) (hp : Drp fld.offset cs out := by repeat (first | exact Drp.z _ | apply Drp.d)) : RA L P N ops (i :: is) Q ⟨t, h⟩ := rp ho w0 hd (pu_fieldAddr_ref hT hx h1 h2 h3 h4 h5 hp) k
theorem tfr (hT : TOk P T) {s : TypeId} {q : Nat} {cs out : List DV} {ti fi : TI} {fs : Array Field} {fld : Field} (k : RT P N ops is (fun l σ' => K ((i, .pu) :: l) σ') ⟨updA t d (.ref out), h⟩) (ho : ops[i]? = some ⟨some d, .fieldAddr s x q, ty, pos, aft, none⟩ := by exact rfl) (hd : Nat.blt d N = true := by exact rfl) (hx : evA N ⟨t, h⟩ x = .ref cs := by exact rfl) (h1 : T s = some ti := by exact rfl) (h2 : ti.desc = .struct fs := by exact rfl) (h3 : fs[q]? = some fld := by exact rfl) (h4 : T fld.type = some fi := by exact rfl) (h5 : Nat.beq fi.size 0 = false := by exact rfl) (hp : Drp fld.offset cs out := by repeat (first | exact Drp.z _ | apply Drp.d)) : RT P N ops (i :: is) K ⟨t, h⟩ := rt_p ho w0 hd (pu_fieldAddr_ref hT hx h1 h2 h3 h4 h5 hp) k
theorem lr (hT : TOk P T) {lt : TypeId} {cs : List DV} {c0 : DV} {ti : TI} (k : RA L P N ops is Q ⟨updA t d (.d c0), h⟩) (ho : ops[i]? = some ⟨some d, .load lt x, ty, pos, aft, none⟩ := by exact rfl) (hd : Nat.blt d N = true := by exact rfl) (hx : evA N ⟨t, h⟩ x = .ref cs := by exact rfl) (h1 : T lt = some ti := by exact rfl) (h2 : isRow ti.desc = false := by exact rfl) (hc : cs[0]? = some c0 := by exact rfl) : RA L P N ops (i :: is) Q ⟨t, h⟩ := rp ho w0 hd (pu_load_ref1 hT hx h1 h2 hc) k
theorem tlr (hT : TOk P T) {lt : TypeId} {cs : List DV} {c0 : DV} {ti : TI} (k : RT P N ops is (fun l σ' => K ((i, .pu) :: l) σ') ⟨updA t d (.d c0), h⟩) (ho : ops[i]? = some ⟨some d, .load lt x, ty, pos, aft, none⟩ := by exact rfl) (hd : Nat.blt d N = true := by exact rfl) (hx : evA N ⟨t, h⟩ x = .ref cs := by exact rfl) (h1 : T lt = some ti := by exact rfl) (h2 : isRow ti.desc = false := by exact rfl) (hc : cs[0]? = some c0 := by exact rfl) : RT P N ops (i :: is) K ⟨t, h⟩ := rt_p ho w0 hd (pu_load_ref1 hT hx h1 h2 hc) k
theorem pm1 {j u : Nat} {b : Bool} {r : DV} (k : RA L P N ops is Q ⟨updA t d (.d r), h⟩) (ho : ops[i]? = some ⟨some d, .move x, ty, pos, aft, some (j, b)⟩ := by exact rfl) (hj : (ops[j]?).bind (·.dst) = some u := by exact rfl) (hu : Nat.blt u N = true := by exact rfl) (hb : t u = .d (.v (.bool b)) := by exact rfl) (hd : Nat.blt d N = true := by exact rfl) (hx : evA N ⟨t, h⟩ x = .d r := by exact rfl) : RA L P N ops (i :: is) Q ⟨t, h⟩ := rp ho (w1 hj hu hb) hd (pu_move hx) k
theorem tpm1 {j u : Nat} {b : Bool} {r : DV} (k : RT P N ops is (fun l σ' => K ((i, .pu) :: l) σ') ⟨updA t d (.d r), h⟩) (ho : ops[i]? = some ⟨some d, .move x, ty, pos, aft, some (j, b)⟩ := by exact rfl) (hj : (ops[j]?).bind (·.dst) = some u := by exact rfl) (hu : Nat.blt u N = true := by exact rfl) (hb : t u = .d (.v (.bool b)) := by exact rfl) (hd : Nat.blt d N = true := by exact rfl) (hx : evA N ⟨t, h⟩ x = .d r := by exact rfl) : RT P N ops (i :: is) K ⟨t, h⟩ := rt_p ho (w1 hj hu hb) hd (pu_move hx) k
theorem pmr1 {j u : Nat} {b : Bool} {r : List DV} (k : RA L P N ops is Q ⟨updA t d (.ref r), h⟩) (ho : ops[i]? = some ⟨some d, .move x, ty, pos, aft, some (j, b)⟩ := by exact rfl) (hj : (ops[j]?).bind (·.dst) = some u := by exact rfl) (hu : Nat.blt u N = true := by exact rfl) (hb : t u = .d (.v (.bool b)) := by exact rfl) (hd : Nat.blt d N = true := by exact rfl) (hx : evA N ⟨t, h⟩ x = .ref r := by exact rfl) : RA L P N ops (i :: is) Q ⟨t, h⟩ := rp ho (w1 hj hu hb) hd (pu_move hx) k
theorem tpmr1 {j u : Nat} {b : Bool} {r : List DV} (k : RT P N ops is (fun l σ' => K ((i, .pu) :: l) σ') ⟨updA t d (.ref r), h⟩) (ho : ops[i]? = some ⟨some d, .move x, ty, pos, aft, some (j, b)⟩ := by exact rfl) (hj : (ops[j]?).bind (·.dst) = some u := by exact rfl) (hu : Nat.blt u N = true := by exact rfl) (hb : t u = .d (.v (.bool b)) := by exact rfl) (hd : Nat.blt d N = true := by exact rfl) (hx : evA N ⟨t, h⟩ x = .ref r := by exact rfl) : RT P N ops (i :: is) K ⟨t, h⟩ := rt_p ho (w1 hj hu hb) hd (pu_move hx) k
theorem pkt1 {j u : Nat} {b : Bool} {z : Operand} {r : DV} (k : RA L P N ops is Q ⟨updA t d (.d r), h⟩) (ho : ops[i]? = some ⟨some d, .pick z x y, ty, pos, aft, some (j, b)⟩ := by exact rfl) (hj : (ops[j]?).bind (·.dst) = some u := by exact rfl) (hu : Nat.blt u N = true := by exact rfl) (hb : t u = .d (.v (.bool b)) := by exact rfl) (hd : Nat.blt d N = true := by exact rfl) (hz : evA N ⟨t, h⟩ z = .d (.v (.bool true)) := by exact rfl) (hx : evA N ⟨t, h⟩ x = .d r := by exact rfl) : RA L P N ops (i :: is) Q ⟨t, h⟩ := rp ho (w1 hj hu hb) hd (pu_pick_t hz hx) k
theorem pkf1 {j u : Nat} {b : Bool} {z : Operand} {r : DV} (k : RA L P N ops is Q ⟨updA t d (.d r), h⟩) (ho : ops[i]? = some ⟨some d, .pick z x y, ty, pos, aft, some (j, b)⟩ := by exact rfl) (hj : (ops[j]?).bind (·.dst) = some u := by exact rfl) (hu : Nat.blt u N = true := by exact rfl) (hb : t u = .d (.v (.bool b)) := by exact rfl) (hd : Nat.blt d N = true := by exact rfl) (hz : evA N ⟨t, h⟩ z = .d (.v (.bool false)) := by exact rfl) (hx : evA N ⟨t, h⟩ y = .d r := by exact rfl) : RA L P N ops (i :: is) Q ⟨t, h⟩ := rp ho (w1 hj hu hb) hd (pu_pick_f hz hx) k
theorem nr1 {j u : Nat} {b : Bool} {r : List DV} (k : RA L P N ops is Q ⟨updA t d (.ref r), h⟩) (ho : ops[i]? = some ⟨some d, .nilCheck x, ty, pos, aft, some (j, b)⟩ := by exact rfl) (hj : (ops[j]?).bind (·.dst) = some u := by exact rfl) (hu : Nat.blt u N = true := by exact rfl) (hb : t u = .d (.v (.bool b)) := by exact rfl) (hd : Nat.blt d N = true := by exact rfl) (hx : evA N ⟨t, h⟩ x = .ref r := by exact rfl) : RA L P N ops (i :: is) Q ⟨t, h⟩ := rp ho (w1 hj hu hb) hd (pu_nil_ref hx) k
theorem tnr1 {j u : Nat} {b : Bool} {r : List DV} (k : RT P N ops is (fun l σ' => K ((i, .pu) :: l) σ') ⟨updA t d (.ref r), h⟩) (ho : ops[i]? = some ⟨some d, .nilCheck x, ty, pos, aft, some (j, b)⟩ := by exact rfl) (hj : (ops[j]?).bind (·.dst) = some u := by exact rfl) (hu : Nat.blt u N = true := by exact rfl) (hb : t u = .d (.v (.bool b)) := by exact rfl) (hd : Nat.blt d N = true := by exact rfl) (hx : evA N ⟨t, h⟩ x = .ref r := by exact rfl) : RT P N ops (i :: is) K ⟨t, h⟩ := rt_p ho (w1 hj hu hb) hd (pu_nil_ref hx) k
theorem fa1 {j u : Nat} {b : Bool} (hT : TOk P T) {s bt : TypeId} {q kk e sz : Nat} {cells : List AV} {ti fi : TI} {fs : Array Field} {fld : Field} (k : RA L P N ops is Q ⟨updA t d (.ptr kk 0 1 0 (e + fld.offset)), h⟩) (ho : ops[i]? = some ⟨some d, .fieldAddr s x q, ty, pos, aft, some (j, b)⟩ := by exact rfl) (hj : (ops[j]?).bind (·.dst) = some u := by exact rfl) (hu : Nat.blt u N = true := by exact rfl) (hb : t u = .d (.v (.bool b)) := by exact rfl) (hd : Nat.blt d N = true := by exact rfl) (hx : evA N ⟨t, h⟩ x = .ptr kk 0 1 0 e := by exact rfl) (h1 : T s = some ti := by exact rfl) (h2 : ti.desc = .struct fs := by exact rfl) (h3 : fs[q]? = some fld := by exact rfl) (h4 : T fld.type = some fi := by exact rfl) (h5 : Nat.beq fi.size 0 = false := by exact rfl) (hk : h kk = .live [⟨bt, sz, .av [cells]⟩] := by exact rfl) : RA L P N ops (i :: is) Q ⟨t, h⟩ := rl ho (w1 hj hu hb) hd (bx_fa hT hx h1 h2 h3 h4 h5 hk) k
theorem ld1 {j u : Nat} {b : Bool} (hT : TOk P T) {lt bt : TypeId} {kk e sz : Nat} {cells : List AV} {c0 : AV} {ti : TI} (k : RA L P N ops is Q ⟨updA t d c0, h⟩) (ho : ops[i]? = some ⟨some d, .load lt x, ty, pos, aft, some (j, b)⟩ := by exact rfl) (hj : (ops[j]?).bind (·.dst) = some u := by exact rfl) (hu : Nat.blt u N = true := by exact rfl) (hb : t u = .d (.v (.bool b)) := by exact rfl) (hd : Nat.blt d N = true := by exact rfl) (hx : evA N ⟨t, h⟩ x = .ptr kk 0 1 0 e := by exact rfl) (h1 : T lt = some ti := by exact rfl) (h2 : isRow ti.desc = false := by exact rfl) (hk : h kk = .live [⟨bt, sz, .av [cells]⟩] := by exact rfl) (hc : cells[e]? = some c0 := by exact rfl) : RA L P N ops (i :: is) Q ⟨t, h⟩ := rl ho (w1 hj hu hb) hd (bx_ld1 hT hx h1 h2 hk hc) k
theorem fr1 {j u : Nat} {b : Bool} (hT : TOk P T) {s : TypeId} {q : Nat} {cs out : List DV} {ti fi : TI} {fs : Array Field} {fld : Field} (k : RA L P N ops is Q ⟨updA t d (.ref out), h⟩) (ho : ops[i]? = some ⟨some d, .fieldAddr s x q, ty, pos, aft, some (j, b)⟩ := by exact rfl) (hj : (ops[j]?).bind (·.dst) = some u := by exact rfl) (hu : Nat.blt u N = true := by exact rfl) (hb : t u = .d (.v (.bool b)) := by exact rfl) (hd : Nat.blt d N = true := by exact rfl) (hx : evA N ⟨t, h⟩ x = .ref cs := by exact rfl) (h1 : T s = some ti := by exact rfl) (h2 : ti.desc = .struct fs := by exact rfl) (h3 : fs[q]? = some fld := by exact rfl) (h4 : T fld.type = some fi := by exact rfl) (h5 : Nat.beq fi.size 0 = false := by exact rfl) (hp : Drp fld.offset cs out := by repeat (first | exact Drp.z _ | apply Drp.d)) : RA L P N ops (i :: is) Q ⟨t, h⟩ := rp ho (w1 hj hu hb) hd (pu_fieldAddr_ref hT hx h1 h2 h3 h4 h5 hp) k
theorem tfr1 {j u : Nat} {b : Bool} (hT : TOk P T) {s : TypeId} {q : Nat} {cs out : List DV} {ti fi : TI} {fs : Array Field} {fld : Field} (k : RT P N ops is (fun l σ' => K ((i, .pu) :: l) σ') ⟨updA t d (.ref out), h⟩) (ho : ops[i]? = some ⟨some d, .fieldAddr s x q, ty, pos, aft, some (j, b)⟩ := by exact rfl) (hj : (ops[j]?).bind (·.dst) = some u := by exact rfl) (hu : Nat.blt u N = true := by exact rfl) (hb : t u = .d (.v (.bool b)) := by exact rfl) (hd : Nat.blt d N = true := by exact rfl) (hx : evA N ⟨t, h⟩ x = .ref cs := by exact rfl) (h1 : T s = some ti := by exact rfl) (h2 : ti.desc = .struct fs := by exact rfl) (h3 : fs[q]? = some fld := by exact rfl) (h4 : T fld.type = some fi := by exact rfl) (h5 : Nat.beq fi.size 0 = false := by exact rfl) (hp : Drp fld.offset cs out := by repeat (first | exact Drp.z _ | apply Drp.d)) : RT P N ops (i :: is) K ⟨t, h⟩ := rt_p ho (w1 hj hu hb) hd (pu_fieldAddr_ref hT hx h1 h2 h3 h4 h5 hp) k
theorem lr1 {j u : Nat} {b : Bool} (hT : TOk P T) {lt : TypeId} {cs : List DV} {c0 : DV} {ti : TI} (k : RA L P N ops is Q ⟨updA t d (.d c0), h⟩) (ho : ops[i]? = some ⟨some d, .load lt x, ty, pos, aft, some (j, b)⟩ := by exact rfl) (hj : (ops[j]?).bind (·.dst) = some u := by exact rfl) (hu : Nat.blt u N = true := by exact rfl) (hb : t u = .d (.v (.bool b)) := by exact rfl) (hd : Nat.blt d N = true := by exact rfl) (hx : evA N ⟨t, h⟩ x = .ref cs := by exact rfl) (h1 : T lt = some ti := by exact rfl) (h2 : isRow ti.desc = false := by exact rfl) (hc : cs[0]? = some c0 := by exact rfl) : RA L P N ops (i :: is) Q ⟨t, h⟩ := rp ho (w1 hj hu hb) hd (pu_load_ref1 hT hx h1 h2 hc) k
theorem tlr1 {j u : Nat} {b : Bool} (hT : TOk P T) {lt : TypeId} {cs : List DV} {c0 : DV} {ti : TI} (k : RT P N ops is (fun l σ' => K ((i, .pu) :: l) σ') ⟨updA t d (.d c0), h⟩) (ho : ops[i]? = some ⟨some d, .load lt x, ty, pos, aft, some (j, b)⟩ := by exact rfl) (hj : (ops[j]?).bind (·.dst) = some u := by exact rfl) (hu : Nat.blt u N = true := by exact rfl) (hb : t u = .d (.v (.bool b)) := by exact rfl) (hd : Nat.blt d N = true := by exact rfl) (hx : evA N ⟨t, h⟩ x = .ref cs := by exact rfl) (h1 : T lt = some ti := by exact rfl) (h2 : isRow ti.desc = false := by exact rfl) (hc : cs[0]? = some c0 := by exact rfl) : RT P N ops (i :: is) K ⟨t, h⟩ := rt_p ho (w1 hj hu hb) hd (pu_load_ref1 hT hx h1 h2 hc) k
theorem k1 {j u : Nat} {want : Bool} (k : RA L P N ops is Q ⟨updA t d (.tup []), h⟩) (ho : ops[i]? = some ⟨some d, op, ty, pos, aft, some (j, want)⟩ := by exact rfl) (hj : (ops[j]?).bind (·.dst) = some u := by exact rfl) (hu : Nat.blt u N = true := by exact rfl) (hb : t u = .d (.v (.bool !want)) ∨ t u = .tup [] := by first | exact .inl rfl | exact .inr rfl) (hd : Nat.blt d N = true := by exact rfl) : RA L P N ops (i :: is) Q ⟨t, h⟩ := rk ho hj hu hb hd k
theorem k2 {j u : Nat} {want : Bool} (k : RT P N ops is (fun l σ' => K ((i, .pu) :: l) σ') ⟨updA t d (.tup []), h⟩) (ho : ops[i]? = some ⟨some d, op, ty, pos, aft, some (j, want)⟩ := by exact rfl) (hj : (ops[j]?).bind (·.dst) = some u := by exact rfl) (hu : Nat.blt u N = true := by exact rfl) (hb : t u = .d (.v (.bool !want)) ∨ t u = .tup [] := by first | exact .inl rfl | exact .inr rfl) (hd : Nat.blt d N = true := by exact rfl) : RT P N ops (i :: is) K ⟨t, h⟩ := rt_skip ho hj hu hb hd k
theorem nx {K' : AS → Prop} (k : K' σ) : RA L P N ops [] (AThen K' Q) σ := ra_nil (then_n k)
theorem sk {K' : AS → Prop} (k : K' σ) : AW L P N .skip (AThen K' Q) σ := aw_skip (then_n k)
theorem sq {id : Nat} {c' : Code} (is : List Nat) (k : RA L P N ops is (AThen (fun σ => AW L P N c' Q σ) Q) σ) (his : List.range ops.size = is := by exact rfl) : AW L P N (.seq (.region id ops false) c') Q σ := aw_seq (aw_regionA his k)
theorem sr {id : Nat} (is : List Nat) (k : RA L P N ops is Q σ) (his : List.range ops.size = is := by exact rfl) : AW L P N (.region id ops false) Q σ := aw_regionA his k
end
end Go.Proofs.YtlakbomkpnlidaaGreat
namespace Go.Proofs.YtlakbomkpnlidaaGreat
open Go.RowKit
set_option linter.unusedVariables false
set_option maxRecDepth 100000

theorem nestL_set {α : Type} {kf m : Nat} {c : α → List DV} {x : List α} {a : α} : (nestL kf c x).set m (nestC kf m (c a)) = nestL kf c (x.set m a) := by
  apply List.ext_getElem?
  intro i
  rw [nestL_get]
  by_cases e : i = m
  · subst e
    by_cases hl : i < x.length
    · rw [List.getElem?_set_self (by rw [nestL_len]; exact hl), List.getElem?_set_self hl]; rfl
    · rw [List.getElem?_eq_none (by simp [nestL_len]; omega), List.getElem?_eq_none (by simp; omega)]; rfl
  · rw [List.getElem?_set_ne (Ne.symm e), List.getElem?_set_ne (Ne.symm e), nestL_get]
theorem famL_same {α : Type} {ft : TypeId} {fz m : Nat} {c : α → List DV} {x : List α} {a a' : α} (he : x[m]? = some a) (hs : slOf (c a') = slOf (c a)) : famL ft fz c (x.set m a') = famL ft fz c x := by
  apply List.ext_getElem?
  intro i
  rw [famL_get, famL_get]
  by_cases e : i = m
  · subst e
    have hl := (List.getElem?_eq_some_iff.1 he).1
    rw [List.getElem?_set_self hl, he]; simp [hs]
  · rw [List.getElem?_set_ne (Ne.symm e)]
theorem nestL_same {α : Type} {kf m : Nat} {c : α → List DV} {x : List α} {a a' : α} (he : x[m]? = some a) (hs : nestC kf m (c a') = nestC kf m (c a)) : nestL kf c (x.set m a') = nestL kf c x := by
  rw [← nestL_set]
  apply List.ext_getElem?
  intro i
  by_cases e : i = m
  · subst e
    have hl := (List.getElem?_eq_some_iff.1 he).1
    rw [List.getElem?_set_self (by rw [nestL_len]; exact hl), nestL_get, he, hs]; rfl
  · rw [List.getElem?_set_ne (Ne.symm e)]
theorem famL_set {α : Type} {ft : TypeId} {fz m : Nat} {c : α → List DV} {x : List α} {a : α} : famL ft fz c (x.set m a) = (famL ft fz c x).set m ⟨ft, fz, .data (slOf (c a))⟩ := by simp [famL, List.map_set]
theorem upd_id (h : Heap) {k : Nat} {s : Slot} (hk : h k = s) : upd h k s = h := by
  funext p
  by_cases e : p = k
  · subst e; rw [upd_same, hk]
  · rw [upd_ne _ _ e]

section
variable {E : Env} {F F' : Nat → Prop} {μ μ' : Places} {h h' : Heap} {w : World}
theorem HInv.recast (H : HInv E F μ h w) (f1 : ∀ b, F b → F' b) (f2 : ∀ b, F' b → F b ∨ ∃ k f o, lv h k f = some o ∧ μ k f = some b) (born : ∀ k, h k ≠ .no → h' k ≠ .no)
    (old : ∀ k f o', h k ≠ .no → lv h' k f = some o' → ∃ o, lv h k f = some o ∧ o.cs.len = o'.cs.len ∧ o.sz = o'.sz ∧ o.ty = o'.ty ∧ μ' k f = μ k f)
    (g : Nat → Nat → Nat × Nat) (gs : ∀ k f o' b, lv h' k f = some o' → μ' k f = some b → ∃ o, lv h (g k f).1 (g k f).2 = some o ∧ μ (g k f).1 (g k f).2 = some b)
    (gi : ∀ k f k2 f2 o o2, lv h' k f = some o → lv h' k2 f2 = some o2 → g k f = g k2 f2 → k = k2 ∧ f = f2)
    (sep : ∀ k f o' b, lv h' k f = some o' → μ' k f = some b → ¬ F' b)
    (ob : Evo w F μ h w F' μ' h' → ∀ k f o', lv h' k f = some o' → ObjRep w F' μ' h' (μ' k f) o') : HInv E F' μ' h' w ∧ Evo w F μ h w F' μ' h' := by
  have V : Evo w F μ h w F' μ' h' := ⟨fun _ _ => rfl, f1, born, fun k f o' hk ho' => by
    obtain ⟨o, ho, a1, a2, a3, a4⟩ := old k f o' hk ho'
    exact ⟨o, ho, .inr ⟨a1, a2, a4, fun b cur hm hc => ⟨cur, by rw [← a3]; exact hc, rfl⟩⟩⟩⟩
  refine ⟨⟨ob V, fun k f o k2 f2 o2 b l1 l2 m1 m2 => ?_, sep, fun k f o' b hl hm => ?_, fun b hb => ?_, fun b hb => ?_, H.ev.trans V, H.os, H.tape, H.output, H.size, H.keep⟩, V⟩
  · obtain ⟨x1, y1, z1⟩ := gs _ _ _ _ l1 m1
    obtain ⟨x2, y2, z2⟩ := gs _ _ _ _ l2 m2
    have e := H.inj _ _ _ _ _ _ b y1 y2 z1 z2
    exact gi _ _ _ _ _ _ l1 l2 (Prod.ext e.1 e.2)
  · obtain ⟨x1, y1, z1⟩ := gs _ _ _ _ hl hm
    exact H.src _ _ _ b y1 z1
  · rcases f2 b hb with h1 | ⟨k, f, o, h1, h2⟩
    · exact H.fz b h1
    · exact H.lt h1 h2
  · rcases f2 b hb with h1 | ⟨k, f, o, h1, h2⟩
    · exact H.fsrc b h1
    · exact .inr (H.src _ _ _ b h1 h2)
end

section
variable {P : Program} {T : Tab} {L N : Nat} {ops : Array Oper} {E : Env} {K : List (Nat × Cls) → AS → Prop} {i : Nat} {is : List Nat} {t : Nat → AV} {h h' : Heap} {d : Tmp} {dst : Option Tmp} {op : Op} {ty : TypeId} {pos : String} {aft : Array Edge} {g : Option (Nat × Bool)} {Q : AExit → AS → Prop} {σ : AS} {c : Code} {x y : Operand}

theorem lv4 {k kf k2 kn : Nat} {s : Slot} {G' : List AObj} {p f : Nat} {o : AObj} (hl : lv (upd (upd (upd (upd h k s) kf .dead) k2 .dead) kn (.live G')) p f = some o) :
    (p = kn ∧ G'[f]? = some o) ∨ (p ≠ kn ∧ p ≠ k2 ∧ p ≠ kf ∧ p = k ∧ lv (upd h k s) k f = some o) ∨ (p ≠ kn ∧ p ≠ k2 ∧ p ≠ kf ∧ p ≠ k ∧ lv h p f = some o) := by
  by_cases e1 : p = kn
  · subst e1; rw [lv_upd_same] at hl; exact .inl ⟨rfl, hl⟩
  · rw [lv_upd_ne _ _ _ e1] at hl
    by_cases e2 : p = k2
    · subst e2; simp [lv, upd_same] at hl
    · rw [lv_upd_ne _ _ _ e2] at hl
      by_cases e3 : p = kf
      · subst e3; simp [lv, upd_same] at hl
      · rw [lv_upd_ne _ _ _ e3] at hl
        by_cases e4 : p = k
        · subst e4; exact .inr (.inl ⟨e1, e2, e3, rfl, hl⟩)
        · rw [lv_upd_ne _ _ _ e4] at hl; exact .inr (.inr ⟨e1, e2, e3, e4, hl⟩)
theorem weak_absorb_ {k kf k2 kn m : Nat} {bt : TypeId} {sz : Nat} {R R' : List (List AV)} {G G' : List AObj} {o2 : AObj} (hk : h k = .live [⟨bt, sz, .av R⟩]) (hf : h kf = .live G) (h2 : h k2 = .live [o2]) (hn : h kn = .no) (hkf : k ≠ kf) (hk2 : k ≠ k2) (hkk : kf ≠ k2)
    (hG : ∀ (f : Nat) o, G'[f]? = some o → (f = m ∧ o = o2) ∨ (f ≠ m ∧ G[f]? = some o)) (hl : R'.length = R.length)
    (hR : ∀ (i : Nat) cells', R'[i]? = some cells' → ∃ cells, R[i]? = some cells ∧ cells'.length = cells.length ∧ ∀ (j : Nat) c', cells'[j]? = some c' → ∃ c, cells[j]? = some c ∧ (c = c' ∨ (∃ f n, f ≠ m ∧ c = .own kf f n ∧ c' = .own kn f n) ∨ ∃ n, c = .own k2 0 n ∧ c' = .own kn m n)) :
    Weak L N ⟨t, h⟩ ⟨t, upd (upd (upd (upd h k (.live [⟨bt, sz, .av R'⟩])) kf .dead) k2 .dead) kn (.live G')⟩ := by
  rintro E a w ⟨F, μ, A⟩
  have H := A.H
  dsimp only at H
  have n1 : kn ≠ k := fun e => by rw [e, hk] at hn; cases hn
  have n2 : kn ≠ kf := fun e => by rw [e, hf] at hn; cases hn
  have n3 : kn ≠ k2 := fun e => by rw [e, h2] at hn; cases hn
  have lk : ∀ {p f o}, lv (upd h k (.live [⟨bt, sz, .av R'⟩])) k f = some o → p = k → f = 0 ∧ o = ⟨bt, sz, .av R'⟩ := fun {p f o} hl _ => by
    rw [lv_upd_same] at hl
    cases f with
    | zero => simp at hl; exact ⟨rfl, hl.symm⟩
    | succ f => simp at hl
  have hGs : ∀ {f : Nat} {o}, G'[f]? = some o → ∃ o', lv h (if f = m then k2 else kf) (if f = m then 0 else f) = some o' ∧ o' = o := fun {f o} hg => by
    rcases hG f o hg with ⟨e, e2⟩ | ⟨e, e2⟩
    · rw [if_pos e, if_pos e]; exact ⟨o2, lv_of h2, e2.symm⟩
    · rw [if_neg e, if_neg e]; exact ⟨o, (lv_live hf f).trans e2, rfl⟩
  let μ' : Places := fun p f => if p = kn then μ (if f = m then k2 else kf) (if f = m then 0 else f) else μ p f
  have mkn : ∀ f, μ' kn f = μ (if f = m then k2 else kf) (if f = m then 0 else f) := fun f => if_pos rfl
  have mne : ∀ {p} f, p ≠ kn → μ' p f = μ p f := fun f e => if_neg e
  have bornn : ∀ p, h p ≠ .no → upd (upd (upd (upd h k (.live [⟨bt, sz, .av R'⟩])) kf .dead) k2 .dead) kn (.live G') p ≠ .no := fun p hp => by
    by_cases e1 : p = kn
    · rw [e1, upd_same]; intro e; cases e
    · rw [upd_ne _ _ e1]
      by_cases e2 : p = k2
      · rw [e2, upd_same]; intro e; cases e
      · rw [upd_ne _ _ e2]
        by_cases e3 : p = kf
        · rw [e3, upd_same]; intro e; cases e
        · rw [upd_ne _ _ e3]
          by_cases e4 : p = k
          · rw [e4, upd_same]; intro e; cases e
          · rw [upd_ne _ _ e4]; exact hp
  have bkn : upd (upd (upd (upd h k (.live [⟨bt, sz, .av R'⟩])) kf .dead) k2 .dead) kn (.live G') kn ≠ .no := by rw [upd_same]; intro e; cases e
  obtain ⟨H', V⟩ := H.recast (F' := F) (μ' := μ') (h' := upd (upd (upd (upd h k (.live [⟨bt, sz, .av R'⟩])) kf .dead) k2 .dead) kn (.live G')) (fun _ hb => hb) (fun _ hb => .inl hb) bornn
    (fun p f o' hp ho' => by
      rcases lv4 ho' with ⟨e, _⟩ | ⟨e1, _, _, e, hl⟩ | ⟨e1, _, _, _, hl⟩
      · rw [e] at hp; exact absurd hn hp
      · subst e
        obtain ⟨rfl, rfl⟩ := lk hl rfl
        exact ⟨_, lv_of hk, by simp [Cells.len, *], rfl, rfl, mne _ e1⟩
      · exact ⟨o', hl, rfl, rfl, rfl, mne _ e1⟩)
    (fun p f => if p = kn then (if f = m then k2 else kf, if f = m then 0 else f) else (p, f))
    (fun p f o' b ho' hm => by
      rcases lv4 ho' with ⟨e, hl⟩ | ⟨e1, _, _, e, hl⟩ | ⟨e1, _, _, _, hl⟩
      · subst e
        rw [mkn] at hm
        obtain ⟨o, ho, _⟩ := hGs hl
        simp only [if_pos]
        exact ⟨o, ho, hm⟩
      · subst e
        obtain ⟨rfl, rfl⟩ := lk hl rfl
        rw [mne _ e1] at hm
        simp only [if_neg e1]
        exact ⟨_, lv_of hk, hm⟩
      · rw [mne _ e1] at hm
        simp only [if_neg e1]
        exact ⟨o', hl, hm⟩)
    (fun p f p2 f2 o oo l1 l2 => by
      have d1 := lv4 l1
      have d2 := lv4 l2
      have c1 : p ≠ kn → p ≠ k2 ∧ p ≠ kf := fun e => by rcases d1 with ⟨e', _⟩ | ⟨_, a, b, _⟩ | ⟨_, a, b, _⟩ <;> first | exact absurd e' e | exact ⟨a, b⟩
      have c2 : p2 ≠ kn → p2 ≠ k2 ∧ p2 ≠ kf := fun e => by rcases d2 with ⟨e', _⟩ | ⟨_, a, b, _⟩ | ⟨_, a, b, _⟩ <;> first | exact absurd e' e | exact ⟨a, b⟩
      intro e
      by_cases q1 : p = kn <;> by_cases q2 : p2 = kn
      · rw [if_pos q1, if_pos q2] at e
        refine ⟨q1.trans q2.symm, ?_⟩
        by_cases r1 : f = m <;> by_cases r2 : f2 = m
        · rw [r1, r2]
        · rw [if_pos r1, if_neg r2] at e; exact absurd (Prod.ext_iff.1 e).1.symm hkk
        · rw [if_neg r1, if_pos r2] at e; exact absurd (Prod.ext_iff.1 e).1 hkk
        · simp only [if_neg r1, if_neg r2] at e; exact (Prod.ext_iff.1 e).2
      · rw [if_pos q1, if_neg q2] at e
        have := (Prod.ext_iff.1 e).1
        simp only at this
        obtain ⟨a, b⟩ := c2 q2
        split at this
        · exact absurd this.symm a
        · exact absurd this.symm b
      · rw [if_neg q1, if_pos q2] at e
        have := (Prod.ext_iff.1 e).1
        simp only at this
        obtain ⟨a, b⟩ := c1 q1
        split at this
        · exact absurd this a
        · exact absurd this b
      · rw [if_neg q1, if_neg q2] at e
        exact ⟨(Prod.ext_iff.1 e).1, (Prod.ext_iff.1 e).2⟩)
    (fun p f o' b ho' hm => by
      rcases lv4 ho' with ⟨e, hl⟩ | ⟨e1, _, _, e, hl⟩ | ⟨e1, _, _, _, hl⟩
      · subst e
        rw [mkn] at hm
        obtain ⟨o, ho, _⟩ := hGs hl
        exact H.sep _ _ _ b ho hm
      · subst e
        obtain ⟨rfl, rfl⟩ := lk hl rfl
        rw [mne _ e1] at hm
        exact H.sep _ _ _ b (lv_of hk) hm
      · rw [mne _ e1] at hm
        exact H.sep _ _ _ b hl hm)
    (fun V p f o' ho' => by
      rcases lv4 ho' with ⟨e, hl⟩ | ⟨e1, _, _, e, hl⟩ | ⟨e1, _, _, _, hl⟩
      · subst e
        rw [mkn]
        obtain ⟨o, ho, rfl⟩ := hGs hl
        exact (H.ob _ _ _ ho).evo V fun _ _ => rfl
      · subst e
        obtain ⟨rfl, rfl⟩ := lk hl rfl
        rw [mne _ e1]
        rcases H.ob p 0 _ (lv_of hk) with ⟨q1, q2⟩ | ⟨b, cur, q1, q2, q3⟩
        · exact .inl ⟨q1, by simpa [Cells.len, *] using q2⟩
        · refine .inr ⟨b, cur, q1, q2, fun i cells' hi => ?_⟩
          obtain ⟨cells, r1, r2, r3⟩ := hR i cells' hi
          obtain ⟨s1, s2⟩ := q3 i cells r1
          refine ⟨r2.trans s1, fun j c' hj => ?_⟩
          obtain ⟨c, hc, hcc⟩ := r3 j c' hj
          obtain ⟨u, hu, hr⟩ := s2 j c hc
          refine ⟨u, hu, ?_⟩
          rcases hcc with rfl | ⟨f, n, hfm, rfl, rfl⟩ | ⟨n, rfl, rfl⟩
          · exact hr.evo V
          · cases hr with | own _ _ _ _ g1 gb hv =>
            refine .own _ _ _ _ g1 bkn fun o ho => ?_
            rw [lv_upd_same] at ho
            rcases hG f o ho with ⟨e, _⟩ | ⟨_, e⟩
            · exact absurd e hfm
            · rw [mkn, if_neg hfm, if_neg hfm]
              exact hv o ((lv_live hf f).trans e)
          · cases hr with | own _ _ _ _ g1 gb hv =>
            refine .own _ _ _ _ g1 bkn fun o ho => ?_
            rw [lv_upd_same] at ho
            rcases hG m o ho with ⟨_, e⟩ | ⟨e, _⟩
            · rw [mkn, if_pos rfl, if_pos rfl, e]
              exact hv o2 (lv_of h2)
            · exact absurd rfl e
      · rw [mne _ e1]
        exact (H.ob _ _ _ hl).evo V fun _ _ => rfl)
  exact ⟨F, μ', H', A.df, A.sz, fun d hd => (A.tm d hd).evo V, A.lim⟩
inductive NstC (kf i : Nat) : List AV → List DV → Prop
  | nil : NstC kf i [] []
  | v {x : Value} {cs : List AV} {ds : List DV} (q : NstC kf i cs ds) : NstC kf i (.d (.v x) :: cs) (.v x :: ds)
  | sl {n : Nat} {es : List (List DV)} {cs : List AV} {ds : List DV} (hn : n = es.length) (q : NstC kf i cs ds) : NstC kf i (.own kf i n :: cs) (.sl es :: ds)
theorem NstC.eq_ {kf i : Nat} {cs : List AV} {ds : List DV} (q : NstC kf i cs ds) : cs = nestC kf i ds := by
  induction q with
  | nil => rfl
  | v q ih => simp [nestC, ih]
  | sl hn q ih => simp [nestC, ih, hn]
theorem absorb_cells {α : Type} {kf kn k2 m i : Nat} {c : α → List DV} {a : α} (hi : i ≠ m) : ∀ (j : Nat) c', (nestC kn i (c a))[j]? = some c' → ∃ c0, (nestC kf i (c a))[j]? = some c0 ∧ (c0 = c' ∨ (∃ f n, f ≠ m ∧ c0 = .own kf f n ∧ c' = .own kn f n) ∨ ∃ n, c0 = .own k2 0 n ∧ c' = .own kn m n) := fun j c' hj => by
  rw [nestC_get] at hj
  obtain ⟨x, hx, rfl⟩ := Option.map_eq_some_iff.1 hj
  refine ⟨nestA kf i x, by rw [nestC_get, hx]; rfl, ?_⟩
  cases x with
  | v x => exact .inl rfl
  | sl es => exact .inr (.inl ⟨i, es.length, hi, rfl, rfl⟩)
theorem absorb_new {α : Type} {kf kn k2 m : Nat} {c : α → List DV} {a : α} : ∀ (j : Nat) c', (nestC kn m (c a))[j]? = some c' → ∃ c0, (nestC k2 0 (c a))[j]? = some c0 ∧ (c0 = c' ∨ (∃ f n, f ≠ m ∧ c0 = .own kf f n ∧ c' = .own kn f n) ∨ ∃ n, c0 = .own k2 0 n ∧ c' = .own kn m n) := fun j c' hj => by
  rw [nestC_get] at hj
  obtain ⟨x, hx, rfl⟩ := Option.map_eq_some_iff.1 hj
  refine ⟨nestA k2 0 x, by rw [nestC_get, hx]; rfl, ?_⟩
  cases x with
  | v x => exact .inl rfl
  | sl es => exact .inr (.inr ⟨es.length, rfl, rfl⟩)
theorem absorb_set {α : Type} (kn : Nat) {k kf k2 m : Nat} {bt ft ft2 : TypeId} {sz fz fz2 : Nat} {c : α → List DV} {xs : List α} (a : α) {cs : List AV} {es2 : List (List DV)} (hk : h k = .live [⟨bt, sz, .av ((nestL kf c xs).set m cs)⟩]) (hf : h kf = .live (famL ft fz c xs)) (h2 : h k2 = .live [⟨ft2, fz2, .data es2⟩]) (hn : h kn = .no)
    (hkf : Nat.beq k kf = false) (hk2 : Nat.beq k k2 = false) (hkk : Nat.beq kf k2 = false) (hcs : NstC k2 0 cs (c a)) (hes : es2 = slOf (c a)) (hft : ft2 = ft) (hfz : fz2 = fz) (hm : m < xs.length) :
    Weak L N ⟨t, h⟩ ⟨t, upd (upd (upd (upd h k (.live [⟨bt, sz, .av (nestL kn c (xs.set m a))⟩])) kf .dead) k2 .dead) kn (.live (famL ft fz c (xs.set m a)))⟩ := by
  subst hft hfz hes
  rw [hcs.eq_] at hk
  refine weak_absorb_ (m := m) hk hf h2 hn (Nat.ne_of_beq_eq_false hkf) (Nat.ne_of_beq_eq_false hk2) (Nat.ne_of_beq_eq_false hkk) (fun f o ho => ?_) (by simp [nestL_len]) fun i cells' hi => ?_
  · rw [famL_get] at ho
    by_cases e : f = m
    · subst e
      rw [List.getElem?_set_self hm] at ho
      simp at ho
      exact .inl ⟨rfl, ho.symm⟩
    · rw [List.getElem?_set_ne (Ne.symm e)] at ho
      exact .inr ⟨e, by rw [famL_get]; exact ho⟩
  · rw [nestL_get] at hi
    by_cases e : i = m
    · subst e
      rw [List.getElem?_set_self hm] at hi
      simp at hi
      subst hi
      exact ⟨nestC k2 0 (c a), by rw [List.getElem?_set_self (by rw [nestL_len]; exact hm)], by rw [nestC_len, nestC_len], absorb_new⟩
    · rw [List.getElem?_set_ne (Ne.symm e)] at hi
      obtain ⟨b, hb, rfl⟩ := Option.map_eq_some_iff.1 hi
      exact ⟨nestC kf i (c b), by rw [List.getElem?_set_ne (Ne.symm e), nestL_get, hb]; rfl, by rw [nestC_len, nestC_len], absorb_cells e⟩
theorem absorb_app {α : Type} (kn : Nat) {k kf k2 : Nat} {bt ft ft2 : TypeId} {sz fz fz2 : Nat} {c : α → List DV} {xs : List α} (a : α) {cs : List AV} {es2 : List (List DV)} (hk : h k = .live [⟨bt, sz, .av (nestL kf c xs ++ [cs])⟩]) (hf : h kf = .live (famL ft fz c xs)) (h2 : h k2 = .live [⟨ft2, fz2, .data es2⟩]) (hn : h kn = .no)
    (hkf : Nat.beq k kf = false) (hk2 : Nat.beq k k2 = false) (hkk : Nat.beq kf k2 = false) (hcs : NstC k2 0 cs (c a)) (hes : es2 = slOf (c a)) (hft : ft2 = ft) (hfz : fz2 = fz) :
    Weak L N ⟨t, h⟩ ⟨t, upd (upd (upd (upd h k (.live [⟨bt, sz, .av (nestL kn c (xs ++ [a]))⟩])) kf .dead) k2 .dead) kn (.live (famL ft fz c (xs ++ [a])))⟩ := by
  subst hft hfz hes
  rw [hcs.eq_] at hk
  have split : ∀ (i : Nat) (b : α), (xs ++ [a])[i]? = some b → (i = xs.length ∧ b = a) ∨ (i ≠ xs.length ∧ xs[i]? = some b) := fun i b hb => by
    rcases Nat.lt_or_ge i xs.length with hlt | hge
    · rw [List.getElem?_append_left hlt] at hb; exact .inr ⟨by omega, hb⟩
    · rw [List.getElem?_append_right hge] at hb
      cases e : i - xs.length with
      | zero => rw [e] at hb; simp at hb; exact .inl ⟨by omega, hb.symm⟩
      | succ q => rw [e] at hb; simp at hb
  refine weak_absorb_ (m := xs.length) hk hf h2 hn (Nat.ne_of_beq_eq_false hkf) (Nat.ne_of_beq_eq_false hk2) (Nat.ne_of_beq_eq_false hkk) (fun f o ho => ?_) (by simp [nestL_len]) fun i cells' hi => ?_
  · rw [famL_get] at ho
    obtain ⟨b, hb, rfl⟩ := Option.map_eq_some_iff.1 ho
    rcases split f b hb with ⟨e, rfl⟩ | ⟨e, hb⟩
    · exact .inl ⟨e, rfl⟩
    · exact .inr ⟨e, by rw [famL_get, hb]; rfl⟩
  · rw [nestL_get] at hi
    obtain ⟨b, hb, rfl⟩ := Option.map_eq_some_iff.1 hi
    rcases split i b hb with ⟨rfl, rfl⟩ | ⟨e, hb⟩
    · exact ⟨nestC k2 0 (c b), by rw [List.getElem?_append_right (by rw [nestL_len]; exact Nat.le_refl _), nestL_len]; simp, by rw [nestC_len, nestC_len], absorb_new⟩
    · have hlt := (List.getElem?_eq_some_iff.1 hb).1
      exact ⟨nestC kf i (c b), by rw [List.getElem?_append_left (by rw [nestL_len]; exact hlt), nestL_get, hb]; rfl, by rw [nestC_len, nestC_len], absorb_cells e⟩
end
end Go.Proofs.YtlakbomkpnlidaaGreat
namespace Go.Proofs.YtlakbomkpnlidaaGreat
open Go.RowKit
set_option linter.unusedVariables false
set_option maxRecDepth 100000
section
variable {E : Env} {F F' : Nat → Prop} {μ μ' : Places} {h h' : Heap} {w : World}
theorem lv2 {k kf : Nat} {o0 : AObj} {s : Slot} {p f : Nat} {o : AObj} (hne : k ≠ kf) (hl : lv (upd (upd h k (.live [o0])) kf s) p f = some o) : (p = kf ∧ lv (upd (upd h k (.live [o0])) kf s) kf f = some o) ∨ (p ≠ kf ∧ p = k ∧ f = 0 ∧ o = o0) ∨ (p ≠ kf ∧ p ≠ k ∧ lv h p f = some o) := by
  by_cases e1 : p = kf
  · subst e1; exact .inl ⟨rfl, hl⟩
  · rw [lv_upd_ne _ _ _ e1] at hl
    by_cases e2 : p = k
    · subst e2
      rw [lv_upd_same] at hl
      cases f with
      | zero => simp at hl; exact .inr (.inl ⟨e1, rfl, rfl, hl.symm⟩)
      | succ f => simp at hl
    · rw [lv_upd_ne _ _ _ e2] at hl; exact .inr (.inr ⟨e1, e2, hl⟩)
theorem born2 {k kf : Nat} {s s' : Slot} (h1 : s ≠ .no) (h2 : s' ≠ .no) : ∀ p, h p ≠ .no → upd (upd h k s) kf s' p ≠ .no := fun p hp => by
  by_cases e1 : p = kf
  · rw [e1, upd_same]; exact h2
  · rw [upd_ne _ _ e1]
    by_cases e2 : p = k
    · rw [e2, upd_same]; exact h1
    · rw [upd_ne _ _ e2]; exact hp
inductive NilC : List AV → List DV → Prop
  | nil : NilC [] []
  | v {x : Value} {cs : List AV} {ds : List DV} (q : NilC cs ds) : NilC (.d (.v x) :: cs) (.v x :: ds)
  | nl {cs : List AV} {ds : List DV} (q : NilC cs ds) : NilC (.d (.v (.slice none 0 0)) :: cs) (.sl [] :: ds)
theorem NilC.spec {cs : List AV} {ds : List DV} (q : NilC cs ds) : cs.length = ds.length ∧ slOf ds = [] ∧ ∀ (j : Nat) x, ds[j]? = some x → (∃ v, x = .v v ∧ cs[j]? = some (.d (.v v))) ∨ (x = .sl [] ∧ cs[j]? = some (.d (.v (.slice none 0 0)))) := by
  induction q with
  | nil => exact ⟨rfl, rfl, fun j x h => by simp at h⟩
  | v q ih =>
    refine ⟨by simp [ih.1], by simpa [slOf] using ih.2.1, fun j x h => ?_⟩
    cases j with
    | zero => simp at h; exact .inl ⟨_, h.symm, rfl⟩
    | succ j => exact ih.2.2 j x (by simpa using h)
  | nl q ih =>
    refine ⟨by simp [ih.1], rfl, fun j x h => ?_⟩
    cases j with
    | zero => simp at h; exact .inr ⟨h.symm, rfl⟩
    | succ j => exact ih.2.2 j x (by simpa using h)
theorem ObjRep.dat {p : Option Nat} {ft : TypeId} {fz : Nat} {es : List (List DV)} {μ2 : Places} {h2 : Heap} (r : ObjRep w F μ h p ⟨ft, fz, .data es⟩) : ObjRep w F μ2 h2 p ⟨ft, fz, .data es⟩ := by
  rcases r with r | ⟨b, cur, h1, h2, h3⟩
  · exact .inl r
  · refine .inr ⟨b, cur, h1, h2, fun i cells hi => ⟨(h3 i cells hi).1, fun j c hj => ?_⟩⟩
    obtain ⟨u, hu, hr⟩ := (h3 i cells hi).2 j c hj
    refine ⟨u, hu, ?_⟩
    simp only [Cells.get] at hi
    obtain ⟨e, he, rfl⟩ := Option.map_eq_some_iff.1 hi
    rw [List.getElem?_map] at hj
    obtain ⟨x, hx, rfl⟩ := Option.map_eq_some_iff.1 hj
    cases hr with | d _ _ hd => exact .d _ _ hd
theorem HInv.joinF {gl : Glob F w} (H : HInv E F μ h w) {F1 : Nat → Prop} {μ1 : Places} {w1 : World} {kf m : Nat} {L0 : List AObj} {ft : TypeId} {fz : Nat} {es es' : List (List DV)} (hk : h kf = .live L0) (hm : L0[m]? = some ⟨ft, fz, .data es⟩)
    (H1 : HInv ⟨w, F, fun p f => if p = 0 ∧ f = 0 then μ kf m else none, lks [.live [⟨ft, fz, .data es⟩]], gl⟩ F1 μ1 (lks [.live [⟨ft, fz, .data es'⟩]]) w1) :
    HInv E F1 (updP μ kf m (μ1 0 0)) (upd h kf (.live (L0.set m ⟨ft, fz, .data es'⟩))) w1 ∧ Evo w F μ h w1 F1 (updP μ kf m (μ1 0 0)) (upd h kf (.live (L0.set m ⟨ft, fz, .data es'⟩))) := by
  have hml : m < L0.length := (List.getElem?_eq_some_iff.1 hm).1
  have hlo : lv h kf m = some ⟨ft, fz, .data es⟩ := (lv_live hk m).trans hm
  have lo1 : lv (lks [.live [⟨ft, fz, .data es'⟩]]) 0 0 = some ⟨ft, fz, .data es'⟩ := rfl
  have own : ∀ {b}, Env.O0 ⟨w, F, fun p f => if p = 0 ∧ f = 0 then μ kf m else none, lks [.live [⟨ft, fz, .data es⟩]], gl⟩ b → μ kf m = some b := fun {b} ⟨p, f, o, hl, hb⟩ => by
    dsimp only at hb
    split at hb
    · exact hb
    · cases hb
  have look : ∀ {p f o}, lv (upd h kf (.live (L0.set m ⟨ft, fz, .data es'⟩))) p f = some o → (p = kf ∧ f = m ∧ o = ⟨ft, fz, .data es'⟩) ∨ (¬ (p = kf ∧ f = m) ∧ lv h p f = some o) := fun {p f o} hl => by
    by_cases e : p = kf
    · subst e
      rw [lv_upd_same] at hl
      by_cases e2 : f = m
      · subst e2
        rw [List.getElem?_set_self hml] at hl
        injection hl with hl
        exact .inl ⟨rfl, rfl, hl.symm⟩
      · rw [List.getElem?_set_ne (Ne.symm e2)] at hl
        exact .inr ⟨fun ⟨_, q⟩ => e2 q, (lv_live hk f).trans hl⟩
    · rw [lv_upd_ne _ _ _ e] at hl; exact .inr ⟨fun ⟨q, _⟩ => e q, hl⟩
  have stay : ∀ {p f o b}, ¬ (p = kf ∧ f = m) → lv h p f = some o → μ p f = some b → w1.heap[b]? = w.heap[b]? := fun hne hl hb =>
    H1.keep _ (H.lt hl hb) fun hO => hne (H.inj _ _ _ _ _ _ _ hl hlo hb (own hO))
  have V : Evo w F μ h w1 F1 (updP μ kf m (μ1 0 0)) (upd h kf (.live (L0.set m ⟨ft, fz, .data es'⟩))) := by
    refine ⟨H1.ev.fr, H1.ev.fs, fun p hp => ?_, fun p f o' hp ho' => ?_⟩
    · by_cases e : p = kf
      · subst e; rw [upd_same]; intro e; cases e
      · rw [upd_ne _ _ e]; exact hp
    · rcases look ho' with ⟨rfl, rfl, rfl⟩ | ⟨hne, hl⟩
      · obtain ⟨o, ho, hx⟩ := H1.ev.live 0 0 _ (fun e => by cases e) lo1
        have : o = ⟨ft, fz, .data es⟩ := by
          have h5 : some (⟨ft, fz, .data es⟩ : AObj) = some o := ho
          injection h5 with h5; exact h5.symm
        subst this
        refine ⟨_, hlo, ?_⟩
        rw [updP_same]
        simpa using hx
      · exact ⟨o', hl, .inr ⟨rfl, rfl, updP_ne _ _ hne, fun b cur hb hc => ⟨cur, by rw [stay hne hl hb]; exact hc, rfl⟩⟩⟩
  refine ⟨⟨fun p f o hl => ?_, fun p f o p2 f2 o2 b l1 l2 m1 m2 => ?_, fun p f o b hl hb => ?_, fun p f o b hl hb => ?_, H1.fz, fun b hb => ?_, H.ev.trans V, H1.os.trans H.os, H1.tape.trans H.tape, H1.output.trans H.output, Nat.le_trans H.size H1.size, fun b hb1 hb2 => ?_⟩, V⟩
  · rcases look hl with ⟨rfl, rfl, rfl⟩ | ⟨hne, hl⟩
    · rw [updP_same]; exact (H1.ob 0 0 _ lo1).dat
    · rw [updP_ne _ _ hne]; exact (H.ob p f o hl).evo V fun b hb => stay hne hl hb
  · have mix : ∀ {q g oo}, ¬ (q = kf ∧ g = m) → lv h q g = some oo → μ q g = some b → μ1 0 0 = some b → False := fun hne hl hb hb1 => by
      rcases H1.src 0 0 _ b lo1 hb1 with hs | hs
      · exact hne (H.inj _ _ _ _ _ _ b hl hlo hb (own hs))
      · have := H.lt hl hb; have hs : w.heap.size ≤ b := hs; omega
    rcases look l1 with ⟨rfl, rfl, _⟩ | ⟨n1, r1⟩ <;> rcases look l2 with ⟨rfl, rfl, _⟩ | ⟨n2, r2⟩
    · exact ⟨rfl, rfl⟩
    · rw [updP_same] at m1; rw [updP_ne _ _ n2] at m2; exact (mix n2 r2 m2 m1).elim
    · rw [updP_same] at m2; rw [updP_ne _ _ n1] at m1; exact (mix n1 r1 m1 m2).elim
    · rw [updP_ne _ _ n1] at m1; rw [updP_ne _ _ n2] at m2; exact H.inj _ _ _ _ _ _ b r1 r2 m1 m2
  · rcases look hl with ⟨rfl, rfl, rfl⟩ | ⟨hne, hl⟩
    · rw [updP_same] at hb; exact H1.sep 0 0 _ b lo1 hb
    · rw [updP_ne _ _ hne] at hb
      intro hF
      rcases H1.fsrc b hF with hs | hs | hs
      · exact H.sep _ _ _ b hl hb hs
      · exact hne (H.inj _ _ _ _ _ _ b hl hlo hb (own hs))
      · have := H.lt hl hb; have hs : w.heap.size ≤ b := hs; omega
  · rcases look hl with ⟨rfl, rfl, rfl⟩ | ⟨hne, hl⟩
    · rw [updP_same] at hb
      rcases H1.src 0 0 _ b lo1 hb with hs | hs
      · exact H.src _ _ _ b hlo (own hs)
      · have := H.size; have hs : w.heap.size ≤ b := hs; exact .inr (by omega)
    · rw [updP_ne _ _ hne] at hb; exact H.src _ _ _ b hl hb
  · rcases H1.fsrc b hb with hs | hs | hs
    · exact H.fsrc b hs
    · exact .inr (H.src _ _ _ b hlo (own hs))
    · have := H.size; have hs : w.heap.size ≤ b := hs; exact .inr (.inr (by omega))
  · have := H.size
    refine (H1.keep b (show b < w.heap.size by omega) fun hO => ?_).trans (H.keep b hb1 hb2)
    rcases H.src _ _ _ b hlo (own hO) with hs | hs
    · exact hb2 hs
    · omega
end
section
variable {P : Program} {T : Tab} {L N : Nat} {ops : Array Oper} {E : Env} {K : List (Nat × Cls) → AS → Prop} {i : Nat} {is : List Nat} {t : Nat → AV} {h h' : Heap} {d : Tmp} {dst : Option Tmp} {op : Op} {ty : TypeId} {pos : String} {aft : Array Edge} {g : Option (Nat × Bool)} {Q : AExit → AS → Prop} {σ : AS} {x y : Operand}
theorem weak_adoptN {α : Type} (kf : Nat) {k n : Nat} {bt : TypeId} {sz : Nat} (ft : TypeId) (fz : Nat) {c : α → List DV} (z : α) {zc : List AV} (hk : h k = .live [⟨bt, sz, .av (List.replicate n zc)⟩]) (hf : h kf = .no) (hz : NilC zc (c z)) :
    Weak L N ⟨t, h⟩ ⟨t, upd (upd h k (.live [⟨bt, sz, .av (nestL kf c (List.replicate n z))⟩])) kf (.live (famL ft fz c (List.replicate n z)))⟩ := by
  rintro E a w ⟨F, μ, A⟩
  have H := A.H
  dsimp only at H
  have hne : k ≠ kf := fun e => by rw [← e, hk] at hf; cases hf
  obtain ⟨z1, z2, z3⟩ := hz.spec
  have look : ∀ {p f o}, lv (upd (upd h k (.live [⟨bt, sz, .av (nestL kf c (List.replicate n z))⟩])) kf (.live (famL ft fz c (List.replicate n z)))) p f = some o → (p = kf ∧ o.cs.len = 0) ∨ (p ≠ kf ∧ p = k ∧ f = 0 ∧ o = ⟨bt, sz, .av (nestL kf c (List.replicate n z))⟩) ∨ (p ≠ kf ∧ p ≠ k ∧ lv h p f = some o) := fun {p f o} hl => by
    rcases lv2 hne hl with ⟨rfl, hl⟩ | q | q
    · rw [lv_upd_same, famL_get] at hl
      obtain ⟨b, hb, rfl⟩ := Option.map_eq_some_iff.1 hl
      have : b = z := (List.mem_replicate.1 (List.mem_of_getElem? hb)).2
      subst this
      exact .inl ⟨rfl, by rw [z2]; rfl⟩
    · exact .inr (.inl q)
    · exact .inr (.inr q)
  let μ' : Places := fun p f => if p = kf then none else μ p f
  have mkf : ∀ f, μ' kf f = none := fun f => if_pos rfl
  have mne : ∀ {p} f, p ≠ kf → μ' p f = μ p f := fun f e => if_neg e
  obtain ⟨H', V⟩ := H.recast (F' := F) (μ' := μ') (h' := upd (upd h k (.live [⟨bt, sz, .av (nestL kf c (List.replicate n z))⟩])) kf (.live (famL ft fz c (List.replicate n z)))) (fun _ hb => hb) (fun _ hb => .inl hb) (born2 (by simp) (by simp))
    (fun p f o' hp ho' => by
      rcases look ho' with ⟨rfl, _⟩ | ⟨e1, rfl, rfl, rfl⟩ | ⟨e1, e2, hl⟩
      · exact absurd hf hp
      · exact ⟨_, lv_of hk, by simp [Cells.len, nestL_len], rfl, rfl, mne _ e1⟩
      · exact ⟨o', hl, rfl, rfl, rfl, mne _ e1⟩)
    (fun p f => (p, f))
    (fun p f o' b ho' hm => by
      rcases look ho' with ⟨rfl, _⟩ | ⟨e1, rfl, rfl, rfl⟩ | ⟨e1, e2, hl⟩
      · rw [mkf] at hm; cases hm
      · rw [mne _ e1] at hm; exact ⟨_, lv_of hk, hm⟩
      · rw [mne _ e1] at hm; exact ⟨o', hl, hm⟩)
    (fun p f p2 f2 o oo l1 l2 e => ⟨(Prod.ext_iff.1 e).1, (Prod.ext_iff.1 e).2⟩)
    (fun p f o' b ho' hm => by
      rcases look ho' with ⟨rfl, _⟩ | ⟨e1, rfl, rfl, rfl⟩ | ⟨e1, e2, hl⟩
      · rw [mkf] at hm; cases hm
      · rw [mne _ e1] at hm; exact H.sep _ _ _ b (lv_of hk) hm
      · rw [mne _ e1] at hm; exact H.sep _ _ _ b hl hm)
    (fun V p f o' ho' => by
      rcases look ho' with ⟨rfl, hz⟩ | ⟨e1, rfl, rfl, rfl⟩ | ⟨e1, e2, hl⟩
      · exact .inl ⟨mkf _, hz⟩
      · rw [mne _ e1]
        rcases H.ob p 0 _ (lv_of hk) with ⟨q1, q2⟩ | ⟨b, cur, q1, q2, q3⟩
        · exact .inl ⟨q1, by simpa [Cells.len, nestL_len] using q2⟩
        · refine .inr ⟨b, cur, q1, q2, fun i cells hi => ?_⟩
          simp only [Cells.get, nestL_get] at hi
          obtain ⟨a', ha, rfl⟩ := Option.map_eq_some_iff.1 hi
          have hil := (List.getElem?_eq_some_iff.1 ha).1
          simp only [List.length_replicate] at hil
          have : a' = z := (List.mem_replicate.1 (List.mem_of_getElem? ha)).2
          subst this
          obtain ⟨s1, s2⟩ := q3 i zc (by simp [Cells.get, List.getElem?_replicate, hil])
          refine ⟨by rw [nestC_len, ← z1]; exact s1, fun j cc hj => ?_⟩
          rw [nestC_get] at hj
          obtain ⟨x, hx, rfl⟩ := Option.map_eq_some_iff.1 hj
          rcases z3 j x hx with ⟨v, rfl, hc⟩ | ⟨rfl, hc⟩
          · obtain ⟨u, hu, hr⟩ := s2 j _ hc
            exact ⟨u, hu, hr.evo V⟩
          · obtain ⟨u, hu, hr⟩ := s2 j _ hc
            refine ⟨u, hu, ?_⟩
            have h6 := rep_v hr
            subst h6
            refine .own _ _ _ _ rfl (by rw [upd_same]; intro e; cases e) fun o ho => ?_
            rcases look ho with ⟨_, hz⟩ | ⟨e1, _⟩ | ⟨e1, _⟩
            · exact ⟨by simp, fun _ => .inl ⟨mkf _, rfl, rfl⟩⟩
            · exact absurd rfl e1
            · exact absurd rfl e1
      · rw [mne _ e1]
        exact (H.ob _ _ _ hl).evo V fun _ _ => rfl)
  exact ⟨F, μ', H', A.df, A.sz, fun d hd => (A.tm d hd).evo V, A.lim⟩
theorem weak_nest0 {α : Type} (kf : Nat) {k : Nat} {bt : TypeId} {sz : Nat} (ft : TypeId) (fz : Nat) (c : α → List DV) (hk : h k = .live [⟨bt, sz, .data []⟩]) (hf : h kf = .no) :
    Weak L N ⟨t, h⟩ ⟨t, upd (upd h k (.live [⟨bt, sz, .av (nestL kf c [])⟩])) kf (.live (famL ft fz c []))⟩ := by
  rintro E a w ⟨F, μ, A⟩
  have H := A.H
  dsimp only at H
  have hne : k ≠ kf := fun e => by rw [← e, hk] at hf; cases hf
  have look : ∀ {p f o}, lv (upd (upd h k (.live [⟨bt, sz, .av (nestL kf c [])⟩])) kf (.live (famL ft fz c []))) p f = some o → (p ≠ kf ∧ p = k ∧ f = 0 ∧ o = ⟨bt, sz, .av (nestL kf c [])⟩) ∨ (p ≠ kf ∧ p ≠ k ∧ lv h p f = some o) := fun {p f o} hl => by
    rcases lv2 hne hl with ⟨rfl, hl⟩ | q | q
    · rw [lv_upd_same, famL_get] at hl; simp at hl
    · exact .inl q
    · exact .inr q
  obtain ⟨H', V⟩ := H.recast (F' := F) (μ' := μ) (h' := upd (upd h k (.live [⟨bt, sz, .av (nestL kf c [])⟩])) kf (.live (famL ft fz c []))) (fun _ hb => hb) (fun _ hb => .inl hb) (born2 (by simp) (by simp))
    (fun p f o' hp ho' => by
      rcases look ho' with ⟨e1, rfl, rfl, rfl⟩ | ⟨e1, e2, hl⟩
      · exact ⟨_, lv_of hk, by simp [Cells.len, nestL_len], rfl, rfl, rfl⟩
      · exact ⟨o', hl, rfl, rfl, rfl, rfl⟩)
    (fun p f => (p, f))
    (fun p f o' b ho' hm => by
      rcases look ho' with ⟨e1, rfl, rfl, rfl⟩ | ⟨e1, e2, hl⟩
      · exact ⟨_, lv_of hk, hm⟩
      · exact ⟨o', hl, hm⟩)
    (fun p f p2 f2 o oo l1 l2 e => ⟨(Prod.ext_iff.1 e).1, (Prod.ext_iff.1 e).2⟩)
    (fun p f o' b ho' hm => by
      rcases look ho' with ⟨e1, rfl, rfl, rfl⟩ | ⟨e1, e2, hl⟩
      · exact H.sep _ _ _ b (lv_of hk) hm
      · exact H.sep _ _ _ b hl hm)
    (fun V p f o' ho' => by
      rcases look ho' with ⟨e1, rfl, rfl, rfl⟩ | ⟨e1, e2, hl⟩
      · rcases H.ob p 0 _ (lv_of hk) with ⟨q1, q2⟩ | ⟨b, cur, q1, q2, q3⟩
        · exact .inl ⟨q1, by simp [Cells.len, nestL_len]⟩
        · exact .inr ⟨b, cur, q1, q2, fun i cells hi => by simp [Cells.get, nestL_get] at hi⟩
      · exact (H.ob _ _ _ hl).evo V fun _ _ => rfl)
  exact ⟨F, μ, H', A.df, A.sz, fun d hd => (A.tm d hd).evo V, A.lim⟩
end
end Go.Proofs.YtlakbomkpnlidaaGreat
namespace Go.Proofs.YtlakbomkpnlidaaGreat
open Go.RowKit
set_option linter.unusedVariables false
set_option maxRecDepth 100000
theorem nst_get {α : Type} {kf m : Nat} {c : α → List DV} {xs : List α} {a : α} (he : xs[m]? = some a) : (Cells.av (nestL kf c xs)).get m = some (nestC kf m (c a)) := by simp [Cells.get, nestL_get, he]
theorem nst_n {α : Type} {kf : Nat} {c : α → List DV} {xs : List α} : (Cells.av (nestL kf c xs)).len = xs.length := by simp [Cells.len, nestL_len]
inductive FamA (kf m : Nat) : List AV → List AV → Prop
  | nil : FamA kf m [] []
  | own {n n' : Nat} {as bs : List AV} (hn : n = n') (q : FamA kf m as bs) : FamA kf m (.own 0 0 n :: as) (.own kf m n' :: bs)
  | free {a : AV} {as bs : List AV} (hf : a.free = true) (q : FamA kf m as bs) : FamA kf m (a :: as) (a :: bs)
theorem FamA.spec {kf m : Nat} {as bs : List AV} (q : FamA kf m as bs) : as.length = bs.length ∧ ∀ (i : Nat) a b, as[i]? = some a → bs[i]? = some b → (a = b ∧ a.free = true) ∨ ∃ n, a = .own 0 0 n ∧ b = .own kf m n := by
  induction q with
  | nil => exact ⟨rfl, fun i a b h => by simp at h⟩
  | own hn q ih =>
    subst hn
    refine ⟨by simp [ih.1], fun i a b h1 h2 => ?_⟩
    cases i with
    | zero => simp at h1 h2; exact .inr ⟨_, h1.symm, h2.symm⟩
    | succ i => exact ih.2 i a b (by simpa using h1) (by simpa using h2)
  | free hf q ih =>
    refine ⟨by simp [ih.1], fun i a b h1 h2 => ?_⟩
    cases i with
    | zero => simp at h1 h2; subst h1 h2; exact .inl ⟨rfl, hf⟩
    | succ i => exact ih.2 i a b (by simpa using h1) (by simpa using h2)
section
variable {P : Program} {T : Tab} {L N : Nat} {ops : Array Oper} {E : Env} {K : List (Nat × Cls) → AS → Prop} {i : Nat} {is : List Nat} {t : Nat → AV} {h h' : Heap} {d : Tmp} {dst : Option Tmp} {op : Op} {ty : TypeId} {pos : String} {aft : Array Edge} {g : Option (Nat × Bool)} {Q : AExit → AS → Prop} {σ : AS} {x y : Operand}

theorem nst_len {α : Type} (hT : TOk P T) {st_ e bt : TypeId} {x : Operand} {k kf n sz : Nat} {c : α → List DV} {es : List α} {ti : TI} (hx : evA N ⟨t, h⟩ x = .own k 0 n) (h1 : T st_ = some ti) (h2 : ti.desc = .slice e) (hk : h k = .live [⟨bt, sz, .av (nestL kf c es)⟩]) (hn : n = es.length) :
    Light1 P N ⟨some d, .call ⟨.builtin .len, #[x], #[st_]⟩, ty, pos, aft, g⟩ ⟨t, h⟩ (.d (.v (.int .i64 (es.length : Int)))) := by
  subst hn
  exact li_len hT hx h1 h2 (lv_of hk) nst_n
theorem nst_ix {α : Type} (hT : TOk P T) {st_ e bt : TypeId} {x y : Operand} {kk : IntKind} {iv : Int} {k kf sz n : Nat} {c : α → List DV} {es : List α} {ed : α} {ti ei : TI} (he : atI es iv = some ed) (hx : evA N ⟨t, h⟩ x = .own k 0 n) (hy : evA N ⟨t, h⟩ y = .d (.v (.int kk iv)))
    (h1 : T st_ = some ti) (h2 : ti.desc = .slice e) (h3 : T e = some ei) (hk : h k = .live [⟨bt, sz, .av (nestL kf c es)⟩]) (hn : n = es.length) (hs : sz = ei.size) : Light1 P N ⟨some d, .indexAddr st_ x y, ty, pos, aft, g⟩ ⟨t, h⟩ (.ptr k 0 n iv.toNat 0) :=
  li_index hT hx hy (atI_e he).1 (hn ▸ (atI_e he).2.2) h1 h2 h3 (lv_of hk) (nst_n.trans hn.symm) hs
theorem nst_ld1 {α : Type} (hT : TOk P T) {lt bt : TypeId} {x : Operand} {k kf n m j sz : Nat} {c : α → List DV} {es : List α} {ed : α} {u : AV} {ti : TI} (he : es[m]? = some ed) (hx : evA N ⟨t, h⟩ x = .ptr k 0 n m j) (h1 : T lt = some ti) (h2 : isRow ti.desc = false) (hk : h k = .live [⟨bt, sz, .av (nestL kf c es)⟩]) (hn : n = es.length)
    (hc : (nestC kf m (c ed))[j]? = some u) : Light1 P N ⟨some d, .load lt x, ty, pos, aft, g⟩ ⟨t, h⟩ u := li_load1 hT hx h1 h2 (lv_of hk) (nst_n.trans hn.symm) (nst_get he) hc
theorem nst_fa {α : Type} (hT : TOk P T) {s bt : TypeId} {x : Operand} {q k kf n m j sz : Nat} {c : α → List DV} {es : List α} {ti fi : TI} {fs : Array Field} {fld : Field} {ed : α} (he : es[m]? = some ed) (hx : evA N ⟨t, h⟩ x = .ptr k 0 n m j) (h1 : T s = some ti) (h2 : ti.desc = .struct fs) (h3 : fs[q]? = some fld)
    (h4 : T fld.type = some fi) (h5 : Nat.beq fi.size 0 = false) (hk : h k = .live [⟨bt, sz, .av (nestL kf c es)⟩]) (hn : n = es.length) : Light1 P N ⟨some d, .fieldAddr s x q, ty, pos, aft, g⟩ ⟨t, h⟩ (.ptr k 0 n m (j + fld.offset)) :=
  li_fieldAddr hT hx h1 h2 h3 h4 h5 (lv_of hk) (nst_n.trans hn.symm) (nst_get he)
theorem nst_st {α : Type} (hT : TOk P T) {bt bt' ft : TypeId} {x y : Operand} {k kf n m j sz fz : Nat} {c : α → List DV} {es : List α} {ed : α} (ed' : α) {cs : List AV} {ti : TI} (he : es[m]? = some ed) (hx : evA N ⟨t, h⟩ x = .ptr k 0 n m j) (hy : cellsA (evA N ⟨t, h⟩ y) = cs) (ho : okL cs = true) (h1 : T bt = some ti)
    (hl : Nat.beq cs.length ti.size = true) (hpos : Nat.blt 0 ti.size = true) (hk : h k = .live [⟨bt', sz, .av (nestL kf c es)⟩]) (hf : h kf = .live (famL ft fz c es)) (hne : Nat.beq k kf = false) (hsl : slOf (c ed') = slOf (c ed)) (hn : n = es.length) (hs : Spl j cs (nestC kf m (c ed)) (nestC kf m (c ed')) := by repeat (first | exact Spl.z _ | apply Spl.t | apply Spl.d)) :
    Heavy1 P N ⟨dst, .store bt x y, ty, pos, aft, g⟩ ⟨t, h⟩ .dead (upd (upd h k (.live [⟨bt', sz, .av (nestL kf c (es.set m ed'))⟩])) kf (.live (famL ft fz c (es.set m ed')))) := by
  have hne := Nat.ne_of_beq_eq_false hne
  rw [famL_same he hsl, upd_id _ (by rw [upd_ne _ _ (Ne.symm hne)]; exact hf), ← nestL_set]
  exact wr_store hT hx hy ho h1 hl hpos hk rfl (nst_n.trans hn.symm) (nst_get he) hs (.av _ _ _) (.one _ _)
theorem spl_all {cs cells : List AV} : cs.length = cells.length → Spl 0 cs cells cs := by
  induction cs generalizing cells with
  | nil => intro h; cases cells with
    | nil => exact .z _
    | cons => cases h
  | cons a cs ih => intro h; cases cells with
    | nil => cases h
    | cons b cells => exact .t (ih (by simpa using h))
theorem nst_sto {α : Type} (hT : TOk P T) {bt bt' : TypeId} {x y : Operand} {k kf n m sz : Nat} {c : α → List DV} {es : List α} {ed : α} {cs : List AV} {ti : TI} (he : es[m]? = some ed) (hx : evA N ⟨t, h⟩ x = .ptr k 0 n m 0) (hy : cellsA (evA N ⟨t, h⟩ y) = cs) (ho : okL cs = true) (h1 : T bt = some ti)
    (hl : Nat.beq cs.length ti.size = true) (hpos : Nat.blt 0 ti.size = true) (hk : h k = .live [⟨bt', sz, .av (nestL kf c es)⟩]) (hcl : (c ed).length = ti.size) (hn : n = es.length) :
    Heavy1 P N ⟨dst, .store bt x y, ty, pos, aft, g⟩ ⟨t, h⟩ .dead (upd h k (.live [⟨bt', sz, .av ((nestL kf c es).set m cs)⟩])) :=
  wr_store hT hx hy ho h1 hl hpos hk rfl (nst_n.trans hn.symm) (nst_get he) (spl_all (by rw [nestC_len, hcl]; exact Nat.eq_of_beq_eq_true hl)) (.av _ _ _) (.one _ _)
theorem nst_app {α : Type} (hT : TOk P T) {bt e bt' bt2 : TypeId} {s x : Operand} {k kf k2 n sz sz2 : Nat} {c : α → List DV} {es : List α} {cs : List AV} {ti ei : TI} (a : α) (hb : (es.length + 1) * sz * 64 ≤ 140737488355328) (hs : evA N ⟨t, h⟩ s = .own k 0 n) (hx : evA N ⟨t, h⟩ x = .own k2 0 1) (h1 : T bt = some ti) (h2 : ti.desc = .slice e) (h3 : T e = some ei)
    (hzs : Nat.beq ei.zero.cells.size ei.size = true) (hpos : Nat.blt 0 ei.size = true) (hsb : Nat.ble ei.bytes (ei.size * 64) = true) (hk : h k = .live [⟨bt', sz, .av (nestL kf c es)⟩]) (hn : n = es.length) (hty : bt' = e) (hsz : sz = ei.size) (hk2 : h k2 = .live [⟨bt2, sz2, .av [cs]⟩]) (hsz2 : sz2 = ei.size) (hok : okL cs = true) :
    Heavy1 P N ⟨dst, .call ⟨.builtin .append, #[s, x], #[bt, bt]⟩, ty, pos, aft, g⟩ ⟨t, h⟩ (.own k 0 (es ++ [a]).length) (upd h k (.live [⟨bt', sz, .av (nestL kf c es ++ [cs])⟩])) := by
  subst hn
  rw [List.length_append, List.length_singleton]
  have hle := Nat.le_of_ble_eq_true hsb
  have hp := blt_lt hpos
  have e1 : (es.length + 1) * ei.bytes ≤ (es.length + 1) * sz * 64 := by
    rw [Nat.mul_assoc, hsz]; exact Nat.mul_le_mul_left _ hle
  have e2 : es.length + 1 ≤ (es.length + 1) * sz := Nat.le_mul_of_pos_right _ (by omega)
  exact wr_append_own (P := P) (N := N) (dst := dst) (ty := ty) (pos := pos) (aft := aft) (g := g) (n := es.length) (m := 1) hT hs hx h1 h2 h3 hzs hpos hk rfl nst_n hty hsz (lv_of hk2) rfl hsz2 (fun e he => by simp only [List.mem_singleton] at he; subst he; exact hok) (.av _ _) (.one _ _) (by omega) (by omega)
theorem bs_av (k : Nat) (hT : TOk P T) {bt e : TypeId} {len : Nat} {parts : Array (Nat × Operand)} {ti ei : TI} {es : List (List AV)} (h1 : T bt = some ti) (h2 : ti.desc = .slice e) (h3 : T e = some ei)
    (hel : Els (evA N ⟨t, h⟩) ei.size 0 parts.toList es) (hlen : Nat.beq es.length len = true) (hpos : Nat.blt 0 (len * ei.size) = true) (hsm : Nat.ble (len * ei.size) 16777216 = true) (hk : h k = .no) :
    Heavy1 P N ⟨some d, .buildSlice bt len parts, ty, pos, aft, g⟩ ⟨t, h⟩ (.own k 0 len) (upd h k (.live [⟨e, ei.size, .av es⟩])) ∧ ∀ k', h k' ≠ .no → upd h k (.live [⟨e, ei.size, .av es⟩]) k' = h k' := st_slice k hT h1 h2 h3 hel hlen hpos hsm (.av es) hk
theorem run_makeA (hT : TOk P T) {bt e : TypeId} {x y : Operand} {kx ky : IntKind} {a b : Int} {l c : Nat} {ti ei : TI} {zs : List AV} {ρ : Operand → Value} {F : Nat → Prop} {μ : Places} {w : World} (H : HInv E F μ h w) (k : Nat) (hx : ρ x = .int kx a) (hy : ρ y = .int ky b) (ha : a = (l : Int)) (hb : b = (c : Int)) (hlc : l ≤ c)
    (h1 : T bt = some ti) (h2 : ti.desc = .slice e) (h3 : T e = some ei) (hz : constL ei.zero.cells.toList = zs) (hzs : Nat.beq zs.length ei.size = true) (hpos : Nat.blt 0 ei.size = true) (hby : ei.bytes * c ≤ 281474976710656) (hm : c ≤ 9223372036854775807) (hk : h k = .no) :
    ∃ v w', (execOp ρ ⟨some d, .makeSlice bt x y, ty, pos, aft, g⟩).run P w = .ok (.value v) w' ∧ ∃ F' μ', HInv E F' μ' (upd h k (.live [⟨e, ei.size, .av (List.replicate l zs)⟩])) w' ∧ Evo w F μ h w' F' μ' (upd h k (.live [⟨e, ei.size, .av (List.replicate l zs)⟩])) ∧ ARep w' F' μ' (upd h k (.live [⟨e, ei.size, .av (List.replicate l zs)⟩])) v (.own k 0 l) := by
  obtain ⟨hu, _⟩ := hT _ _ h1
  rw [h2] at hu
  obtain ⟨_, ie, hie, hsz, hbb, hzz⟩ := hT _ _ h3
  subst ha hb
  have hby' : (ei.bytes : Int) * (c : Int) ≤ 281474976710656 := by
    have : ((ei.bytes * c : Nat) : Int) ≤ 281474976710656 := by omega
    rwa [Int.natCast_mul] at this
  have hrun := run_make (P := P) w bt e ie ei.zero hu hie hzz kx ky l c (by omega) (by omega) (by rw [hbb]; exact hby') (by omega)
  rw [Int.toNat_natCast, Int.toNat_natCast, hsz] at hrun
  have e3 : (execOp ρ ⟨some d, .makeSlice bt x y, ty, pos, aft, g⟩).run P w = .ok (.value (.slice (some ⟨w.heap.size, 0, none⟩) l c)) (w.alloc (.cells (madeCells ei.zero.cells (c * ei.size)) e)) := by
    simp only [execOp, hx, hy]
    rw [Sem.run_bind, hrun]; rfl
  have hp := blt_lt hpos
  have hlen : ei.zero.cells.size = ei.size := by
    have := Nat.eq_of_beq_eq_true hzs
    rw [← hz, constL_map] at this
    simpa using this
  obtain ⟨F', μ', q1, q2, q3⟩ := new_row (cc := .av (List.replicate l zs)) (et := e) H hk (size_madeCells ei.zero.cells (c * ei.size)) (by simpa [Cells.len] using hlc) (by unfold maxLen; omega) fun i cells hi => by
    simp only [Cells.get] at hi
    have hil : i < l := by have := (List.getElem?_eq_some_iff.1 hi).1; simpa using this
    have hqz : cells = zs := by have := List.mem_of_getElem? hi; exact (List.mem_replicate.1 this).2
    subst hqz
    refine ⟨Nat.eq_of_beq_eq_true hzs, fun j a hj => ?_⟩
    rw [← hz, constL_map, List.getElem?_map, Array.getElem?_toList] at hj
    obtain ⟨u, hu', rfl⟩ := Option.map_eq_some_iff.1 hj
    have hjl : j < ei.size := by have := (Array.getElem?_eq_some_iff.1 hu').1; omega
    have hidx : i * ei.size + j < c * ei.size := by
      have : (i + 1) * ei.size ≤ c * ei.size := Nat.mul_le_mul_right _ (by omega)
      rw [Nat.add_mul] at this
      omega
    refine ⟨u, ?_, oneA_rep u⟩
    simp only [madeCells, Array.getElem?_map]
    rw [Array.getElem?_range, if_pos hidx]
    simp only [Option.map_some, hlen]
    rw [Nat.mul_comm, Nat.mul_add_mod, Nat.mod_eq_of_lt hjl, getElem!_def, hu']
  have h5 : (Cells.av (List.replicate l zs)).len = l := by simp [Cells.len]
  rw [h5] at q3
  exact ⟨_, _, e3, F', μ', q1, q2, q3⟩
theorem mk_av {α : Type} (k : Nat) (hT : TOk P T) {bt e : TypeId} {x y : Operand} {kx ky : IntKind} {a b : Int} {ti ei : TI} {zs : List AV} {sz : Nat} (z : α) (hb : 0 ≤ a ∧ a = b ∧ a.toNat * sz * 64 ≤ 281474976710656) (hx : evA N ⟨t, h⟩ x = .d (.v (.int kx a))) (hy : evA N ⟨t, h⟩ y = .d (.v (.int ky b)))
    (h1 : T bt = some ti) (h2 : ti.desc = .slice e) (h3 : T e = some ei) (hsz : ei.size = sz) (hz : constL ei.zero.cells.toList = zs) (hzs : Nat.beq zs.length ei.size = true) (hpos : Nat.blt 0 ei.size = true) (hsb : Nat.ble ei.bytes (ei.size * 64) = true) (hk : h k = .no) :
    Heavy1 P N ⟨some d, .makeSlice bt x y, ty, pos, aft, g⟩ ⟨t, h⟩ (.own k 0 (List.replicate a.toNat z).length) (upd h k (.live [⟨e, ei.size, .av (List.replicate a.toNat zs)⟩])) ∧ ∀ k', h k' ≠ .no → upd h k (.live [⟨e, ei.size, .av (List.replicate a.toNat zs)⟩]) k' = h k' := by
  subst hsz
  rw [List.length_replicate]
  obtain ⟨b1, rfl, b3⟩ := hb
  have hle := Nat.le_of_ble_eq_true hsb
  have hp := blt_lt hpos
  have e1 : ei.bytes * a.toNat ≤ a.toNat * ei.size * 64 := by rw [Nat.mul_comm, Nat.mul_assoc]; exact Nat.mul_le_mul_left _ hle
  have e2 : a.toNat ≤ a.toNat * ei.size := Nat.le_mul_of_pos_right _ (by omega)
  refine ⟨fun E F μ w ρ H st => ?_, ext_upd hk⟩
  have f1 := rep_v (by have := st x (by simp [Op.operands]); rw [hx] at this; exact this)
  have f2 := rep_v (by have := st y (by simp [Op.operands]); rw [hy] at this; exact this)
  obtain ⟨v, w', q1, F', μ', q2, q3, q4⟩ := run_makeA (d := d) (ty := ty) (pos := pos) (aft := aft) (g := g) (l := a.toNat) (c := a.toNat) hT H k f1 f2 (by omega) (by omega) (Nat.le_refl _) h1 h2 h3 hz hzs hpos (by omega) (by omega) hk
  rw [q1]
  exact ⟨F', μ', q2, q3, q4⟩
theorem wr_callF {kf m : Nat} {L0 : List AObj} {ft : TypeId} {fz : Nat} {es es' : List (List DV)} {f : FuncId} {x : Operand} {args : Array Operand} {at_ : Array TypeId} {caps as as' : List AV} {r : AV} (hF : FnC P f [.live [⟨ft, fz, .data es⟩]] as [.live [⟨ft, fz, .data es'⟩]] r) (hx : evA N ⟨t, h⟩ x = .fn f caps) (ha : evL N ⟨t, h⟩ args.toList ++ caps = as')
    (hk : h kf = .live L0) (hm : L0[m]? = some ⟨ft, fz, .data es⟩) (hr : r.free = true) (har : FamA kf m as as') : Heavy1 P N ⟨dst, .call ⟨.value x, args, at_⟩, ty, pos, aft, g⟩ ⟨t, h⟩ r (upd h kf (.live (L0.set m ⟨ft, fz, .data es'⟩))) := fun E F μ w ρ H st => by
  obtain ⟨cap, c1, c2, c3⟩ := args_rep st hx
  rw [call_run hF.c c1]
  rw [ha] at c2 c3
  obtain ⟨a1, a2⟩ := har.spec
  have hlo : lv h kf m = some ⟨ft, fz, .data es⟩ := (lv_live hk m).trans hm
  have lo0 : ∀ {p f o}, lv (lks [.live [⟨ft, fz, .data es⟩]]) p f = some o → p = 0 ∧ f = 0 ∧ o = ⟨ft, fz, .data es⟩ := fun {p f o} hl => by
    cases p with
    | zero => cases f with
      | zero => simp [lv, lks] at hl; exact ⟨rfl, rfl, hl.symm⟩
      | succ f => simp [lv, lks] at hl
    | succ p => simp [lv, lks] at hl
  have H0 : HInv ⟨w, F, fun p f => if p = 0 ∧ f = 0 then μ kf m else none, lks [.live [⟨ft, fz, .data es⟩]], H.glob⟩ F (fun p f => if p = 0 ∧ f = 0 then μ kf m else none) (lks [.live [⟨ft, fz, .data es⟩]]) w := by
    refine ⟨fun p f o hl => ?_, fun p f o p2 f2 o2 b l1 l2 _ _ => ?_, fun p f o b hl hb => ?_, fun p f o b hl hb => .inl ⟨p, f, o, hl, hb⟩, H.fz, fun b hb => .inl hb, Evo.refl_, rfl, rfl, rfl, Nat.le_refl _, fun _ _ _ => rfl⟩
    · obtain ⟨rfl, rfl, rfl⟩ := lo0 hl
      simp only [and_self, if_true]
      exact (H.ob _ _ _ hlo).dat
    · obtain ⟨rfl, rfl, rfl⟩ := lo0 l1
      obtain ⟨rfl, rfl, rfl⟩ := lo0 l2
      exact ⟨rfl, rfl⟩
    · obtain ⟨rfl, rfl, rfl⟩ := lo0 hl
      simp only [and_self, if_true] at hb
      exact H.sep _ _ _ b hlo hb
  refine (hF.g w F _ _ H.glob H0 (c2.trans a1.symm) fun i v a h1 h2 => ?_).mono ?_
  · have hlt : i < as'.length := by have := (List.getElem?_eq_some_iff.1 h2).1; omega
    have h3 := List.getElem?_eq_getElem hlt
    have r3 := c3 i v _ h1 h3
    rcases a2 i a _ h2 h3 with ⟨e, hf⟩ | ⟨n, e1, e2⟩
    · rw [← e] at r3; exact r3.free_ hf
    · rw [e2] at r3
      rw [e1]
      cases r3 with | own _ _ _ _ g1 gb hv =>
      refine .own _ _ _ _ g1 (fun e => by cases e) fun o ho => ?_
      obtain ⟨_, _, rfl⟩ := lo0 ho
      simp only [and_self, if_true]
      exact hv _ hlo
  · rintro e w' ⟨v, F', μ1, rfl, H1, hv⟩
    obtain ⟨J1, J2⟩ := H.joinF hk hm H1
    exact ⟨v, rfl, F', _, J1, J2, hv.free_ hr⟩
theorem c_callF {α : Type} {k kf m : Nat} {bt ft : TypeId} {sz fz : Nat} {cc : α → List DV} {xs : List α} {a : α} (a' : α) {es es' : List (List DV)} {f : FuncId} {x : Operand} {args : Array Operand} {at_ : Array TypeId} {caps as as' : List AV} {r : AV} (hF : FnC P f [.live [⟨ft, fz, .data es⟩]] as [.live [⟨ft, fz, .data es'⟩]] r) (he : xs[m]? = some a) (hrow : nestC kf m (cc a') = nestC kf m (cc a))
    (hx : evA N ⟨t, h⟩ x = .fn f caps) (ha : evL N ⟨t, h⟩ args.toList ++ caps = as') (hk : h k = .live [⟨bt, sz, .av (nestL kf cc xs)⟩]) (hf : h kf = .live (famL ft fz cc xs)) (hes : slOf (cc a) = es) (hes' : slOf (cc a') = es') (hr : r.free = true)
    (har : FamA kf m as as' := by repeat (first | exact FamA.nil | apply FamA.own (by first | rfl | (simp; done) | omega | (simp; omega)) | apply FamA.free rfl)) :
    Heavy1 P N ⟨dst, .call ⟨.value x, args, at_⟩, ty, pos, aft, g⟩ ⟨t, h⟩ r (upd (upd h k (.live [⟨bt, sz, .av (nestL kf cc (xs.set m a'))⟩])) kf (.live (famL ft fz cc (xs.set m a')))) := by
  rw [nestL_same he hrow, upd_id _ hk, famL_set, hes']
  exact wr_callF hF hx ha hf (by rw [famL_get, he]; simp [hes]) hr har
theorem pbl (hT : TOk P T) {bt : TypeId} {parts : Array (Nat × Operand)} {ti : TI} {fs : Array Field} {pl : List (Nat × Nat)} {C0 C : List AV} (h1 : T bt = some ti) (h2 : ti.desc = .struct fs) (h4 : constL ti.zero.cells.toList = C0)
    (h3 : Plc T fs.toList pl := by repeat (first | exact Plc.nil | apply Plc.cons rfl)) (h5 : Bld (fun i => pl[i]?) (evA N ⟨t, h⟩) C0 parts.toList C := by repeat (first | exact Bld.nil _ | apply Bld.cons (cs := [.d _]) rfl rfl rfl rfl (by repeat (first | exact Spl.z _ | apply Spl.t | apply Spl.d)) | apply Bld.cons (cs := [.own _ _ _]) rfl rfl rfl rfl (by repeat (first | exact Spl.z _ | apply Spl.t | apply Spl.d)) | apply Bld.cons (cs := [.ptr _ _ _ _ _]) rfl rfl rfl rfl (by repeat (first | exact Spl.z _ | apply Spl.t | apply Spl.d)) | apply Bld.cons (cs := [.fn _ _]) rfl rfl rfl rfl (by repeat (first | exact Spl.z _ | apply Spl.t | apply Spl.d)) | apply Bld.cons (cs := _ :: _) rfl rfl rfl rfl (by repeat (first | exact Spl.z _ | apply Spl.t | apply Spl.d)))) : Pure1 P N ⟨some d, .build bt parts, ty, pos, aft, g⟩ ⟨t, h⟩ (.agg C) := pu_build hT h1 h2 h3 h4 h5
theorem aw_region_drawW {id : Nat} {is : List Nat} (ms : List Nat) (hm : P.follows .mixedOrders = true) (hms : masks ops.toList [] = ms) (h : RT P N ops is (fun l σ' => drawOk ops ms l = true ∧ ∃ σ'', Weak L N σ' σ'' ∧ Q .normal σ'') σ) : AW L P N (.region id ops true) Q σ := fun E a w A =>
  wp_mono (aw_region_draw (L := L) (Q := fun e σ' => match e with | .normal => ∃ σ'', Weak L N σ' σ'' ∧ Q .normal σ'' | e => Q e σ') ms hm hms h E a w A) fun e a w q => by
    cases e with
    | normal => obtain ⟨σ', A', σ'', hw, hq⟩ := q; exact ⟨σ'', hw E a w A', hq⟩
    | _ => exact q
end
end Go.Proofs.YtlakbomkpnlidaaGreat
