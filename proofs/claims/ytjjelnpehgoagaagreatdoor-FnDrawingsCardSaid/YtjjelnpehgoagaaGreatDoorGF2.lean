/- Texts of this claim, one behind the other (merged by a program of mine). -/
import Derived.Laws.Concat
import Derived.Laws.Strings
import Derived.Laws.DeepStrings4
import Derived.Laws.IdiomStrings
import Derived.Laws.BytesArg
import Derived.Laws.Cover3
import Derived.Lib.Join
import Derived.Lib.ParseIntB
import Derived.Lib.Strings
import Derived.Lib.Bytealg
import Derived.Test.YtjjelnpehgoagaaGreatDoorGF1
set_option linter.unusedSimpArgs false
set_option linter.unusedVariables false
namespace Go.Proofs.YtjjelnpehgoagaaGreatDoor
open Go.RowKit
set_option linter.unusedVariables false
set_option maxRecDepth 100000

mutual
def AV.free : AV → Bool
  | .d _ => true
  | .agg cs => AV.freeL cs
  | .tup cs => AV.freeL cs
  | .ref _ => true
  | .ptr .. => false
  | .own .. => false
  | .fn _ cs => AV.freeL cs
  | .dead => true
def AV.freeL : List AV → Bool
  | [] => true
  | c :: cs => c.free && AV.freeL cs
end
theorem freeL_get : ∀ {cs : List AV}, AV.freeL cs = true → ∀ {i : Nat} {c : AV}, cs[i]? = some c → c.free = true
  | [], _, i, c, hc => by simp at hc
  | x :: cs, h, 0, c, hc => by simp [AV.freeL] at h hc; rw [← hc]; exact h.1
  | x :: cs, h, i + 1, c, hc => by simp [AV.freeL] at h hc; exact freeL_get h.2 hc
theorem ARep.free_ {w : World} {F : Nat → Prop} {μ μ2 : Places} {h h2 : Heap} {v : Value} {a : AV} (r : ARep w F μ h v a) : a.free = true → ARep w F μ2 h2 v a := by
  induction r with
  | d v x hd => intro _; exact .d v x hd
  | agg vs cs hs hr ih => intro hf; exact .agg vs cs hs fun i v c hv hc => ih i v c hv hc (freeL_get (by simpa [AV.free] using hf) hc)
  | tup vs cs hs hr ih => intro hf; exact .tup vs cs hs fun i v c hv hc => ih i v c hv hc (freeL_get (by simpa [AV.free] using hf) hc)
  | ref b off cs g hF hg hr => intro _; exact .ref b off cs g hF hg hr
  | ptr v k f n i j h1 hb hv => intro hf; simp [AV.free] at hf
  | own v k f n h1 hb hv => intro hf; simp [AV.free] at hf
  | fn g vs cs hs hr ih => intro hf; exact .fn g vs cs hs fun i v c hv hc => ih i v c hv hc (freeL_get (by simpa [AV.free] using hf) hc)
  | dead v => intro _; exact .dead v

mutual
inductive RenR (ι : Nat → Nat) : AV → AV → Prop
  | d (x : DV) : RenR ι (.d x) (.d x)
  | agg {cs ds : List AV} (h : RenRL ι cs ds) : RenR ι (.agg cs) (.agg ds)
  | tup {cs ds : List AV} (h : RenRL ι cs ds) : RenR ι (.tup cs) (.tup ds)
  | ref (cs : List DV) : RenR ι (.ref cs) (.ref cs)
  | ptr (k f n i j k' : Nat) (h : ι k = k') : RenR ι (.ptr k f n i j) (.ptr k' f n i j)
  | own (k f n k' : Nat) (h : ι k = k') : RenR ι (.own k f n) (.own k' f n)
  | fn {g : FuncId} {cs ds : List AV} (h : RenRL ι cs ds) : RenR ι (.fn g cs) (.fn g ds)
  | dead : RenR ι .dead .dead
inductive RenRL (ι : Nat → Nat) : List AV → List AV → Prop
  | nil : RenRL ι [] []
  | cons {c d : AV} {cs ds : List AV} (h : RenR ι c d) (k : RenRL ι cs ds) : RenRL ι (c :: cs) (d :: ds)
end
mutual
theorem RenR.eq_ {ι : Nat → Nat} : ∀ {a b : AV}, RenR ι a b → b = a.ren ι
  | _, _, .d x => rfl
  | _, _, .agg h => by rw [AV.ren, RenRL.eq_ h]
  | _, _, .tup h => by rw [AV.ren, RenRL.eq_ h]
  | _, _, .ref cs => rfl
  | _, _, .ptr k f n i j k' h => by rw [AV.ren, h]
  | _, _, .own k f n k' h => by rw [AV.ren, h]
  | _, _, .fn h => by rw [AV.ren, RenRL.eq_ h]
  | _, _, .dead => rfl
theorem RenRL.eq_ {ι : Nat → Nat} : ∀ {a b : List AV}, RenRL ι a b → b = AV.renL ι a
  | _, _, .nil => rfl
  | _, _, .cons h k => by rw [AV.renL, RenR.eq_ h, RenRL.eq_ k]
end
inductive RenS (ι : Nat → Nat) : Slot → Slot → Prop
  | no : RenS ι .no .no
  | dead : RenS ι .dead .dead
  | data (ty : TypeId) (sz : Nat) (es : List (List DV)) : RenS ι (.live [⟨ty, sz, .data es⟩]) (.live [⟨ty, sz, .data es⟩])
  | box (ty : TypeId) (sz : Nat) {cs ds : List AV} (h : RenRL ι cs ds) : RenS ι (.live [⟨ty, sz, .av [cs]⟩]) (.live [⟨ty, sz, .av [ds]⟩])
  | gen (s : Slot) : RenS ι s (s.ren ι)
theorem RenS.eq_ {ι : Nat → Nat} {a b : Slot} (h : RenS ι a b) : b = a.ren ι := by
  cases h with
  | no => rfl
  | dead => rfl
  | data => rfl
  | box ty sz h => rw [h.eq_]; rfl
  | gen => rfl
def nestC (kf i : Nat) : List DV → List AV
  | [] => []
  | .v x :: l => .d (.v x) :: nestC kf i l
  | .sl es :: l => .own kf i es.length :: nestC kf i l
def slOf : List DV → List (List DV)
  | [] => []
  | .v _ :: l => slOf l
  | .sl es :: _ => es
def slCnt : List DV → Nat
  | [] => 0
  | .v _ :: l => slCnt l
  | .sl _ :: l => slCnt l + 1
def nestL {α : Type} (kf : Nat) (c : α → List DV) (x : List α) : List (List AV) := x.mapIdx fun i a => nestC kf i (c a)
def famL {α : Type} (ft : TypeId) (fz : Nat) (c : α → List DV) (x : List α) : List AObj := x.map fun a => ⟨ft, fz, .data (slOf (c a))⟩
theorem nestC_ren {ι : Nat → Nat} (kf i : Nat) : ∀ l : List DV, AV.renL ι (nestC kf i l) = nestC (ι kf) i l
  | [] => rfl
  | .v x :: l => by simp [nestC, AV.renL, AV.ren, nestC_ren kf i l]
  | .sl es :: l => by simp [nestC, AV.renL, AV.ren, nestC_ren kf i l]
theorem RenS.nest {ι : Nat → Nat} {α : Type} {ty : TypeId} {sz kf kf' : Nat} {c : α → List DV} {x : List α} (hk : ι kf = kf') : RenS ι (.live [⟨ty, sz, .av (nestL kf c x)⟩]) (.live [⟨ty, sz, .av (nestL kf' c x)⟩]) := by
  have e : (Slot.live [⟨ty, sz, .av (nestL kf' c x)⟩]) = (Slot.live [⟨ty, sz, .av (nestL kf c x)⟩]).ren ι := by
    subst hk
    simp only [Slot.ren, List.map_cons, List.map_nil, AObj.ren, Cells.ren]
    congr 4
    apply List.ext_getElem?
    intro i
    simp only [nestL, List.getElem?_map, List.getElem?_mapIdx]
    cases x[i]? <;> simp [nestC_ren]
  rw [e]; exact .gen _
theorem RenS.fam {ι : Nat → Nat} {α : Type} {ft : TypeId} {fz : Nat} {c : α → List DV} {x : List α} : RenS ι (.live (famL ft fz c x)) (.live (famL ft fz c x)) := by
  have e : (Slot.live (famL ft fz c x)) = (Slot.live (famL ft fz c x)).ren ι := by
    simp [Slot.ren, famL, AObj.ren, Cells.ren]
  have := RenS.gen (ι := ι) (Slot.live (famL ft fz c x))
  rwa [← e] at this
inductive BirR (ι : Nat → Nat) : Nat → List Slot → Heap → Heap → Prop
  | nil (B : Nat) (h : Heap) : BirR ι B [] h h
  | cons {B : Nat} {s s' : Slot} {ss : List Slot} {h h' : Heap} (hs : RenS ι s s') (k : BirR ι (B + 1) ss (upd h B s') h') : BirR ι B (s :: ss) h h'
theorem BirR.eq_ {ι : Nat → Nat} {B : Nat} {ss : List Slot} {h h' : Heap} (b : BirR ι B ss h h') : h' = births h B (ss.map (Slot.ren ι)) := by
  induction b with
  | nil => rfl
  | cons hs k ih => rw [ih, hs.eq_]; rfl
theorem births_old (h : Heap) {B : Nat} (hB : Abv h B) (ss : List Slot) (k : Nat) (hk : h k ≠ .no) : births h B ss k = h k := by
  refine births_lo h ss B k ?_
  rcases Nat.lt_or_ge k B with hlt | hge
  · exact hlt
  · exact absurd (hB k hge) hk

def callB (P : Program) (f : FuncId) : Bool :=
  match P.funcs[f]? with
  | some fn => !(fn.name == "runtime.NumGoroutine") && fn.body.isSome
  | none => false
structure FnC (P : Program) (f : FuncId) (hin : List Slot) (args : List AV) (hout : List Slot) (r : AV) : Prop where
  c : callB P f = true
  g : FnG P f hin args hout r
section
variable {P : Program} {T : Tab} {L N : Nat} {ops : Array Oper} {E : Env} {K : List (Nat × Cls) → AS → Prop} {i : Nat} {is : List Nat} {t : Nat → AV} {h h' : Heap} {d : Tmp} {dst : Option Tmp} {op : Op} {ty : TypeId} {pos : String} {aft : Array Edge} {g : Option (Nat × Bool)}

theorem wr_append (hT : TOk P T) {bt e : TypeId} {s x : Operand} {k f n : Nat} {news : List (List DV)} {l l' : List AObj} {o : AObj} {cc : Cells} {ti ei : TI} (hs : evA N ⟨t, h⟩ s = .own k f n) (hx : evA N ⟨t, h⟩ x = .d (.sl news)) (h1 : T bt = some ti) (h2 : ti.desc = .slice e) (h3 : T e = some ei)
    (hzs : Nat.beq ei.zero.cells.size ei.size = true) (hpos : Nat.blt 0 ei.size = true) (hk : h k = .live l) (hf : l[f]? = some o) (hn : o.cs.len = n) (hty : o.ty = e) (hsz : o.sz = ei.size) (hnl : ∀ x ∈ news, x.length = ei.size) (happ : App o.cs (.data news) cc) (hl' : SetO l f ⟨o.ty, o.sz, cc⟩ l')
    (hby : (n + news.length) * ei.bytes ≤ 140737488355328) (hm : n + news.length ≤ 140737488355328) :
    Heavy1 P N ⟨dst, .call ⟨.builtin .append, #[s, x], #[bt, bt]⟩, ty, pos, aft, g⟩ ⟨t, h⟩ (.own k f (n + news.length)) (upd h k (.live l')) := fun E F μ w ρ H st => by
  have hr := st s (by simp [Op.operands, Call.operands])
  have hr2 := st x (by simp [Op.operands, Call.operands])
  rw [hs] at hr; rw [hx] at hr2
  have hlo : lv h k f = some o := (lv_live hk f).trans hf
  generalize hvs : ρ s = vs at hr
  cases hr with | own _ _ _ _ g1 hb hv =>
  obtain ⟨v', w', q1, F', μ', q2, q3, q4⟩ := append_core (ty := ty) hT h1 h2 h3 hzs hpos H hk hf hn hty hsz ((hv o hlo).2 hn) (reads_sl hr2 hnl) happ hby hm
  rw [hl'.eq_]
  have e1 : (execOp ρ ⟨dst, .call ⟨.builtin .append, #[s, x], #[bt, bt]⟩, ty, pos, aft, g⟩).run P w = .ok (.value v') w' := by
    simp [execOp, resolve, invoke, builtin, hvs, q1]
  rw [e1]
  exact ⟨F', μ', q2, q3, q4⟩
theorem wr_append_own (hT : TOk P T) {bt e : TypeId} {s x : Operand} {k f n k2 f2 m : Nat} {l l' : List AObj} {o o2 : AObj} {cc : Cells} {ti ei : TI} (hs : evA N ⟨t, h⟩ s = .own k f n) (hx : evA N ⟨t, h⟩ x = .own k2 f2 m) (h1 : T bt = some ti) (h2 : ti.desc = .slice e) (h3 : T e = some ei)
    (hzs : Nat.beq ei.zero.cells.size ei.size = true) (hpos : Nat.blt 0 ei.size = true) (hk : h k = .live l) (hf : l[f]? = some o) (hn : o.cs.len = n) (hty : o.ty = e) (hsz : o.sz = ei.size) (ho2 : lv h k2 f2 = some o2) (hm2 : o2.cs.len = m) (hs2 : o2.sz = ei.size) (hok : o2.cs.oks) (happ : App o.cs o2.cs cc) (hl' : SetO l f ⟨o.ty, o.sz, cc⟩ l')
    (hby : (n + m) * ei.bytes ≤ 140737488355328) (hm : n + m ≤ 140737488355328) :
    Heavy1 P N ⟨dst, .call ⟨.builtin .append, #[s, x], #[bt, bt]⟩, ty, pos, aft, g⟩ ⟨t, h⟩ (.own k f (n + m)) (upd h k (.live l')) := fun E F μ w ρ H st => by
  have hr := st s (by simp [Op.operands, Call.operands])
  have hr2 := st x (by simp [Op.operands, Call.operands])
  rw [hs] at hr; rw [hx] at hr2
  have hlo : lv h k f = some o := (lv_live hk f).trans hf
  generalize hvs : ρ s = vs at hr
  cases hr with | own _ _ _ _ g1 hb hv =>
  have hrd := reads_own H hr2 ho2 hm2 hok
  rw [hs2] at hrd
  subst hm2
  obtain ⟨v', w', q1, F', μ', q2, q3, q4⟩ := append_core (ty := ty) hT h1 h2 h3 hzs hpos H hk hf hn hty hsz ((hv o hlo).2 hn) hrd happ hby hm
  rw [hl'.eq_]
  have e1 : (execOp ρ ⟨dst, .call ⟨.builtin .append, #[s, x], #[bt, bt]⟩, ty, pos, aft, g⟩).run P w = .ok (.value v') w' := by
    simp [execOp, resolve, invoke, builtin, hvs, q1]
  rw [e1]
  exact ⟨F', μ', q2, q3, q4⟩
theorem call_run {f : FuncId} {x : Operand} {args : Array Operand} {at_ : Array TypeId} {ρ : Operand → Value} {cap : Array Value} {w : World} (hc : callB P f = true) (hx : ρ x = .func (.func f) #[] cap) :
    (execOp ρ ⟨dst, .call ⟨.value x, args, at_⟩, ty, pos, aft, g⟩).run P w = .ok (.enter f (args.map ρ ++ cap)) w := by
  unfold callB at hc
  cases hf : P.funcs[f]? with
  | none => simp [hf] at hc
  | some fn =>
    simp only [hf, Bool.and_eq_true, Bool.not_eq_true'] at hc
    obtain ⟨h1, h2⟩ := hc
    obtain ⟨bd, hbd⟩ := Option.isSome_iff_exists.1 h2
    have h4 : ¬ fn.name = "runtime.NumGoroutine" := by simpa using h1
    simp [execOp, resolve, hx, Deferred.ofValue, invoke, callFunc, hf, h4, hbd]
theorem args_rep {F : Nat → Prop} {μ : Places} {w : World} {x : Operand} {args : Array Operand} {at_ : Array TypeId} {ρ : Operand → Value} {f : FuncId} {caps : List AV} (st : Stand N ⟨dst, .call ⟨.value x, args, at_⟩, ty, pos, aft, g⟩ ⟨t, h⟩ ρ w F μ h) (hx : evA N ⟨t, h⟩ x = .fn f caps) :
    ∃ cap, ρ x = .func (.func f) #[] cap ∧ (args.map ρ ++ cap).size = (evL N ⟨t, h⟩ args.toList ++ caps).length ∧ ∀ (i : Nat) v a, (args.map ρ ++ cap)[i]? = some v → (evL N ⟨t, h⟩ args.toList ++ caps)[i]? = some a → ARep w F μ h v a := by
  have hr := st x (by simp [Op.operands, Call.operands])
  rw [hx] at hr
  generalize hv : ρ x = v at hr
  cases hr with | fn _ vs _ hs hr =>
  refine ⟨vs, rfl, by simp [evL_map, hs], fun i v a h1 h2 => ?_⟩
  rw [evL_map] at h2
  rw [Array.getElem?_append] at h1
  rw [List.getElem?_append] at h2
  simp only [Array.size_map, List.length_map, Array.length_toList] at h1 h2
  by_cases hi : i < args.size
  · rw [if_pos hi] at h1 h2
    rw [Array.getElem?_map] at h1
    rw [List.getElem?_map, Array.getElem?_toList] at h2
    obtain ⟨y, hy, rfl⟩ := Option.map_eq_some_iff.1 h1
    rw [hy] at h2
    simp at h2
    subst h2
    exact st y (by simp only [Op.operands, Call.operands]; exact Array.mem_append.2 (.inr (Array.mem_of_getElem? hy)))
  · rw [if_neg hi] at h1 h2
    exact hr _ _ _ h1 h2
theorem lks_nil : lks [] = fun _ => Slot.no := by funext p; rfl
theorem HInv.start {F : Nat → Prop} {μ : Places} {w : World} {gl : Glob F w} (hF : ∀ b, F b → b < w.heap.size) : HInv ⟨w, F, μ, lks [], gl⟩ F μ (lks []) w := by
  have no : ∀ {k f o}, lv (lks []) k f = some o → False := fun hl => by simp [lv, lks] at hl
  exact ⟨fun k f o hl => (no hl).elim, fun k f o k' f' o' b hl => (no hl).elim, fun k f o b hl => (no hl).elim, fun k f o b hl => (no hl).elim, hF, fun b hb => .inl hb, Evo.refl_, rfl, rfl, rfl, Nat.le_refl _, fun _ _ _ => rfl⟩
theorem st_call (B : Nat) {f : FuncId} {x : Operand} {args : Array Operand} {at_ : Array TypeId} {caps as : List AV} {hs : List Slot} {r r' : AV} (hx : evA N ⟨t, h⟩ x = .fn f caps) (ha : evL N ⟨t, h⟩ args.toList ++ caps = as) (hfr : AV.freeL as = true) (hF : FnC P f [] as hs r) (hB : Abv h B)
    (hr : RenR (B + ·) r r') (hb : BirR (B + ·) B hs h h') : Heavy1 P N ⟨dst, .call ⟨.value x, args, at_⟩, ty, pos, aft, g⟩ ⟨t, h⟩ r' h' ∧ ∀ k, h k ≠ .no → h' k = h k := by
  refine ⟨fun E F μ w ρ H st => ?_, fun k hk => by rw [hb.eq_]; exact births_old h hB _ k hk⟩
  obtain ⟨cap, c1, c2, c3⟩ := args_rep st hx
  rw [call_run hF.c c1]
  rw [ha] at c2 c3
  refine (hF.g w F (fun p f => μ (B + p) f) _ H.glob (HInv.start H.fz) c2 fun i v a h1 h2 => (c3 i v a h1 h2).free_ (freeL_get hfr h2)).mono ?_
  rintro e w' ⟨v, F', μ1, rfl, H1, hv⟩
  obtain ⟨μ', J1, J2, J3⟩ := H.join0 hB H1
  refine ⟨v, rfl, F', μ', ?_, ?_, ?_⟩
  · rw [hb.eq_]; exact J1
  · rw [hb.eq_]; exact J2
  · rw [hb.eq_, hr.eq_]; exact hv.ren J3
inductive Vs (h : Heap) : List AV → List AV → Prop
  | nil : Vs h [] []
  | cons {c d : AV} {cs ds : List AV} (hv : View h c d) (k : Vs h cs ds) : Vs h (c :: cs) (d :: ds)
theorem Vs.spec {cs ds : List AV} (v : Vs h cs ds) : cs.length = ds.length ∧ ∀ (i : Nat) c d, cs[i]? = some c → ds[i]? = some d → View h c d := by
  induction v with
  | nil => exact ⟨rfl, fun i c d h => by simp at h⟩
  | cons hv k ih =>
    refine ⟨by simp [ih.1], fun i c d h1 h2 => ?_⟩
    cases i with
    | zero => simp at h1 h2; subst h1 h2; exact hv
    | succ i => simp at h1 h2; exact ih.2 i c d h1 h2
theorem View.agg_ {cs ds : List AV} (v : Vs h cs ds) : View h (.agg cs) (.agg ds) := .agg cs ds v.spec.1 v.spec.2
theorem View.fn_ {f : FuncId} {cs ds : List AV} (v : Vs h cs ds) : View h (.fn f cs) (.fn f ds) := .fn f cs ds v.spec.1 v.spec.2
def SFlat : Slot → Prop
  | .live l => ∀ o ∈ l, o.cs.flat
  | _ => True
theorem sflat_lv {hs : List Slot} (hf : ∀ s ∈ hs, SFlat s) {p f : Nat} {o : AObj} (hl : lv (lks hs) p f = some o) : o.cs.flat := by
  obtain ⟨l, h1, h2⟩ := lv_some hl
  unfold lks at h1
  rw [List.getD_eq_getElem?_getD] at h1
  cases hp : hs[p]? with
  | none => rw [hp] at h1; cases h1
  | some s =>
    rw [hp] at h1
    have h1 : s = .live l := h1
    subst h1
    exact hf _ (List.mem_of_getElem? hp) o (List.mem_of_getElem? h2)
theorem st_callV (B : Nat) {f : FuncId} {x : Operand} {args : Array Operand} {at_ : Array TypeId} {caps as : List AV} {hs : List Slot} {r r' : AV} (hx : evA N ⟨t, h⟩ x = .fn f caps) (ha : Vs h (evL N ⟨t, h⟩ args.toList ++ caps) as) (hF : FnC P f [] as hs r) (hfl : r.flat = true) (hfs : ∀ s ∈ hs, SFlat s) (hB : Abv h B)
    (hr : RenR (B + ·) r r') (hb : BirR (B + ·) B hs h h') : Heavy1 P N ⟨dst, .call ⟨.value x, args, at_⟩, ty, pos, aft, g⟩ ⟨t, h⟩ r' h' ∧ ∀ k, h k ≠ .no → h' k = h k := by
  refine ⟨fun E F μ w ρ H st => ?_, fun k hk => by rw [hb.eq_]; exact births_old h hB _ k hk⟩
  obtain ⟨cap, c1, c2, c3⟩ := args_rep st hx
  rw [call_run hF.c c1]
  obtain ⟨s1, s2⟩ := ha.spec
  have own_lt : ∀ b, OwnB μ h b → b < w.heap.size := fun b ⟨k, f, o, hl, hm⟩ => H.lt hl hm
  refine (hF.g w (fun b => F b ∨ OwnB μ h b) (fun p f => μ (B + p) f) _ (H.glob.evo (fun _ _ => rfl) fun _ => .inl) (HInv.start fun b hb => hb.elim (H.fz b) (own_lt b)) (c2.trans s1) fun i v a h1 h2 => ?_).mono ?_
  · have hlt : i < as.length := (List.getElem?_eq_some_iff.1 h2).1
    have h3 := List.getElem?_eq_getElem (show i < (evL N ⟨t, h⟩ args.toList ++ caps).length by omega)
    exact ARep.view H (s2 i _ a h3 h2) v (c3 i v _ h1 h3)
  · rintro e w' ⟨v, F1, μ1, rfl, H1, hv⟩
    rw [lks_nil] at H1
    have H2 := H1.flatF (F := F) (gl' := H.glob) (D := OwnB μ h) (fun b hb => hb) (fun b hb => ⟨.inl hb, fun ⟨k, f, o, hl, hm⟩ => H.sep _ _ _ b hl hm hb⟩) (fun p f o hl => sflat_lv hfs hl) own_lt
    rw [← lks_nil] at H2
    obtain ⟨μ', J1, J2, J3⟩ := H.join0 hB H2
    refine ⟨v, rfl, fun b => F1 b ∧ ¬ OwnB μ h b, μ', ?_, ?_, ?_⟩
    · rw [hb.eq_]; exact J1
    · rw [hb.eq_]; exact J2
    · rw [hb.eq_, hr.eq_]; exact (hv.reF hfl).ren J3

theorem View.ext {h h2 : Heap} (he : ∀ p, h p ≠ .no → h2 p = h p) {c d : AV} (v : View h c d) : View h2 c d := by
  have lve : ∀ {k f o}, lv h k f = some o → lv h2 k f = some o := fun {k f o} hl => by
    obtain ⟨l, h1, h3⟩ := lv_some hl
    rw [lv_live ((he k (by rw [h1]; intro e; cases e)).trans h1)]; exact h3
  induction v with
  | d x => exact .d x
  | agg cs ds hl hv ih => exact .agg cs ds hl ih
  | tup cs ds hl hv ih => exact .tup cs ds hl ih
  | fn g cs ds hl hv ih => exact .fn g cs ds hl ih
  | ref cs ds hp => exact .ref cs ds hp
  | row k f n o ds ho hn hd hc hv ih => exact .row k f n o ds (lve ho) hn hd hc ih
  | ptr k f n i j o cells ds ho hn hi hl hv ih => exact .ptr k f n i j o cells ds (lve ho) hn hi hl ih
theorem Vs.ext {h h2 : Heap} (he : ∀ p, h p ≠ .no → h2 p = h p) {cs ds : List AV} (v : Vs h cs ds) : Vs h2 cs ds := by
  induction v with
  | nil => exact .nil
  | cons hv k ih => exact .cons (hv.ext he) ih
theorem births_over {h hx : Heap} {B : Nat} (hB : Abv h B) (hxB : Abv hx B) (ss : List Slot) : births hx B ss = over B hx (births h B ss) := by
  funext p
  rcases Nat.lt_or_ge p B with hlt | hge
  · rw [over_lt hlt, births_lo _ _ _ _ hlt]
  · rw [over_ge hge]
    obtain ⟨q, rfl⟩ := Nat.le.dest hge
    rw [births_hi _ _ _ _ hB, births_hi _ _ _ _ hxB]
theorem birR_of {ι : Nat → Nat} : ∀ (hs : List Slot) (B : Nat) (h : Heap), BirR ι B hs h (births h B (hs.map (Slot.ren ι)))
  | [], B, h => .nil B h
  | s :: ss, B, h => .cons (.gen s) (birR_of ss (B + 1) _)
theorem evA_h (x : Operand) (h2 : Heap) : evA N ⟨t, h⟩ x = evA N ⟨t, h2⟩ x := by cases x <;> rfl
theorem evL_h (xs : List Operand) (h2 : Heap) : evL N ⟨t, h⟩ xs = evL N ⟨t, h2⟩ xs := by
  rw [evL_map, evL_map]; exact List.map_congr_left fun x _ => evA_h x h2
theorem sb_call (B : Nat) {f : FuncId} {x : Operand} {args : Array Operand} {at_ : Array TypeId} {caps as : List AV} {hs : List Slot} {r r' : AV} (hx : evA N ⟨t, h⟩ x = .fn f caps) (ha : evL N ⟨t, h⟩ args.toList ++ caps = as) (hfr : AV.freeL as = true) (hF : FnC P f [] as hs r) (hB : Abv h B)
    (hr : RenR (B + ·) r r') (hb : BirR (B + ·) B hs h h') : Abv h B ∧ (∀ h2 : Heap, Abv h2 B → (∀ p, h p ≠ .no → h2 p = h p) → Heavy1 P N ⟨dst, .call ⟨.value x, args, at_⟩, ty, pos, aft, g⟩ ⟨t, h2⟩ r' (over B h2 h')) ∧ over B h h' = h' := by
  refine ⟨hB, fun h2 hB2 he => ?_, ?_⟩
  · rw [hb.eq_, ← births_over hB hB2]
    exact (st_call B ((evA_h x h).trans hx) (by rw [evL_h args.toList h]; exact ha) hfr hF hB2 hr (birR_of hs B h2)).1
  · rw [hb.eq_, ← births_over hB hB]
theorem sb_callV (B : Nat) {f : FuncId} {x : Operand} {args : Array Operand} {at_ : Array TypeId} {caps as : List AV} {hs : List Slot} {r r' : AV} (hx : evA N ⟨t, h⟩ x = .fn f caps) (ha : Vs h (evL N ⟨t, h⟩ args.toList ++ caps) as) (hF : FnC P f [] as hs r) (hfl : r.flat = true) (hfs : ∀ s ∈ hs, SFlat s) (hB : Abv h B)
    (hr : RenR (B + ·) r r') (hb : BirR (B + ·) B hs h h') : Abv h B ∧ (∀ h2 : Heap, Abv h2 B → (∀ p, h p ≠ .no → h2 p = h p) → Heavy1 P N ⟨dst, .call ⟨.value x, args, at_⟩, ty, pos, aft, g⟩ ⟨t, h2⟩ r' (over B h2 h')) ∧ over B h h' = h' := by
  refine ⟨hB, fun h2 hB2 he => ?_, ?_⟩
  · rw [hb.eq_, ← births_over hB hB2]
    exact (st_callV B ((evA_h x h).trans hx) (by rw [evL_h args.toList h]; exact ha.ext he) hF hfl hfs hB2 hr (birR_of hs B h2)).1
  · rw [hb.eq_, ← births_over hB hB]
inductive ResR (T : Tab) (N : Nat) (σ : AS) : List ResultVar → List AV → Prop
  | nil : ResR T N σ [] []
  | tmp {u : Tmp} {a : AV} {rs : List ResultVar} {as : List AV} (h : evA N σ (.tmp u) = a) (k : ResR T N σ rs as) : ResR T N σ (.tmp u :: rs) (a :: as)
  | cell1 {u : Tmp} {ty : TypeId} {ti : TI} {k f n ix j : Nat} {o : AObj} {cells : List AV} {c : AV} {rs : List ResultVar} {as : List AV} (hx : evA N σ (.tmp u) = .ptr k f n ix j) (h1 : T ty = some ti) (h2 : isRow ti.desc = false) (ho : lv σ.h k f = some o) (hn : o.cs.len = n)
      (hi : o.cs.get ix = some cells) (hc : cells[j]? = some c) (q : ResR T N σ rs as) : ResR T N σ (.cell u ty :: rs) (c :: as)
  | cellN {u : Tmp} {ty : TypeId} {ti : TI} {k f n ix j : Nat} {o : AObj} {cells out : List AV} {rs : List ResultVar} {as : List AV} (hx : evA N σ (.tmp u) = .ptr k f n ix j) (h1 : T ty = some ti) (h2 : isRow ti.desc = true) (ho : lv σ.h k f = some o) (hn : o.cs.len = n)
      (hi : o.cs.get ix = some cells) (hc : Seg j ti.size cells out) (q : ResR T N σ rs as) : ResR T N σ (.cell u ty :: rs) (.agg out :: as)
def resA : List AV → AV
  | [a] => a
  | l => .tup l
def resOne (a : Act) : ResultVar → Sem Value
  | .tmp t => pure (a.tmps.getD t undef)
  | .cell p t => do loadVar t (← asAddr (a.tmps.getD p undef))
theorem ResR.run (hT : TOk P T) {σ : AS} {rs : List ResultVar} {as : List AV} (R : ResR T N σ rs as) {F : Nat → Prop} {μ : Places} {a : Act} {w : World} (A : AbsF L E N F μ σ a w) :
    ∃ vs : List Value, (rs.mapM (resOne a)).run P w = .ok vs w ∧ vs.length = as.length ∧ ∀ (i : Nat) v c, vs[i]? = some v → as[i]? = some c → ARep w F μ σ.h v c := by
  have consOk : ∀ {rv : ResultVar} {rs : List ResultVar} {v : Value} {c : AV} {as : List AV}, (resOne a rv).run P w = .ok v w → ARep w F μ σ.h v c →
      (∃ vs : List Value, (rs.mapM (resOne a)).run P w = .ok vs w ∧ vs.length = as.length ∧ ∀ (i : Nat) v c, vs[i]? = some v → as[i]? = some c → ARep w F μ σ.h v c) →
      ∃ vs : List Value, ((rv :: rs).mapM (resOne a)).run P w = .ok vs w ∧ vs.length = (c :: as).length ∧ ∀ (i : Nat) v d, vs[i]? = some v → (c :: as)[i]? = some d → ARep w F μ σ.h v d := by
    rintro rv rs v c as h1 h2 ⟨vs, e1, e2, e3⟩
    refine ⟨v :: vs, by simp [List.mapM_cons, h1, e1], by simp [e2], fun i v' d h3 h4 => ?_⟩
    cases i with
    | zero => simp at h3 h4; subst h3 h4; exact h2
    | succ i => simp at h3 h4; exact e3 i v' d h3 h4
  induction R with
  | nil => exact ⟨[], by simp, rfl, fun i v c h => by simp at h⟩
  | tmp hh k ih =>
    rename_i u a' rs as
    exact consOk (v := a.tmps.getD u undef) rfl (by rw [← hh]; exact evA_rep A (.tmp _)) ih
  | cell1 hx h1 h2 ho hn hi hc q ih =>
    rename_i u0 ty ti k f n ix j o cells c rs as
    have hr := evA_rep A (.tmp u0)
    rw [hx] at hr
    obtain ⟨b, cur, hv, hm, hb, hlen, hcs⟩ := ptr_at A.H hr ho hn hi
    obtain ⟨u, hu, hr2⟩ := hcs _ _ hc
    have hcell := (cell_of_row w b _ cur _ (0, 0) hb).trans hu
    refine consOk ?_ hr2 ih
    have hv' : a.tmps.getD u0 undef = .pointer (some ⟨b, ix * o.sz + j, none⟩) := hv
    simp only [resOne, hv', asAddr, loadVar]
    simp [Sem.run_bind, run_isAgg hT h1, h2, hcell]
  | cellN hx h1 h2 ho hn hi hc q ih =>
    rename_i u ty ti k f n ix j o cells out rs as
    have hr := evA_rep A (.tmp u)
    rw [hx] at hr
    obtain ⟨b, cur, hv, hm, hb, hlen, hcs⟩ := ptr_at A.H hr ho hn hi
    obtain ⟨s1, s2, s3⟩ := hc.spec
    have hall : ∀ q, q < ti.size → ∃ u, cur[ix * o.sz + j + q]? = some u ∧ ∀ c, out[q]? = some c → ARep w F μ σ.h u c := fun q hq => by
      obtain ⟨u, hu, hr2⟩ := hcs (j + q) _ (s3 q _ (List.getElem?_eq_getElem (show q < out.length by omega)))
      exact ⟨u, by rw [Nat.add_assoc]; exact hu, fun c hc => by rw [List.getElem?_eq_getElem (show q < out.length by omega)] at hc; injection hc with hc; rw [← hc]; exact hr2⟩
    obtain ⟨v1, v2⟩ := cut_list cur (ix * o.sz + j) ti.size fun q hq => by obtain ⟨u, hu, _⟩ := hall q hq; exact ⟨u, hu⟩
    have hrun := run_loadN (P := P) hT h1 h2 w b (ix * o.sz + j) ((cur.toList.drop (ix * o.sz + j)).take ti.size) v1 (fun q v hq => by
      rw [cell_of_row w b _ cur o.ty (0, 0) hb]
      exact (v2 q v hq).2)
    have hv' : a.tmps.getD u undef = .pointer (some ⟨b, ix * o.sz + j, none⟩) := hv
    refine consOk (v := .agg ((cur.toList.drop (ix * o.sz + j)).take ti.size).toArray) ?_ (.agg _ out (by simp only [List.size_toArray]; omega) fun q v c hq hc => ?_) ih
    · simp only [resOne, hv', asAddr]
      have := hrun
      simp only [Instr.loadAt, Instr.sureAddr] at this
      exact this
    · have hq' : ((cur.toList.drop (ix * o.sz + j)).take ti.size)[q]? = some v := by simpa using hq
      obtain ⟨hlt, hcur⟩ := v2 q v hq'
      obtain ⟨u, hu, hr2⟩ := hall q hlt
      rw [hcur] at hu
      injection hu with hu
      rw [hu]
      exact hr2 c hc
theorem results_run (hT : TOk P T) {fn : Func} {σ : AS} {rs : List ResultVar} {as : List AV} (hrs : fn.results.toList = rs) (R : ResR T N σ rs as) {F : Nat → Prop} {μ : Places} {a : Act} {w : World} (A : AbsF L E N F μ σ a w) : ∃ v, (results fn a.tmps).run P w = .ok v w ∧ ARep w F μ σ.h v (resA as) := by
  obtain ⟨vs, e1, e2, e3⟩ := R.run hT A
  have hm : (fn.results.mapM (resOne a)).run P w = .ok vs.toArray w := by
    rw [Array.mapM_eq_mapM_toList, hrs, Sem.run_map, e1]; rfl
  have hres : (results fn a.tmps).run P w = .ok (if h : vs.toArray.size = 1 then vs.toArray[0] else .tuple vs.toArray) w := by
    have e : results fn a.tmps = fn.results.mapM (resOne a) >>= fun vs => pure (if h : vs.size = 1 then vs[0] else .tuple vs) := by
      unfold results
      congr 1
    rw [e, Sem.run_bind, hm]; rfl
  refine ⟨_, hres, ?_⟩
  rcases as with _ | ⟨c, _ | ⟨c2, cs⟩⟩
  · have : vs = [] := List.eq_nil_of_length_eq_zero (by simpa using e2)
    subst this
    exact .tup #[] [] rfl fun i v c h => by simp at h
  · obtain ⟨v, rfl⟩ := List.length_eq_one_iff.1 e2
    exact e3 0 v c rfl rfl
  · have hne : ¬ vs.toArray.size = 1 := by simp at e2 ⊢; omega
    rw [dif_neg hne]
    exact .tup _ _ (by simpa using e2) fun i v c h1 h2 => e3 i v c (by simpa using h1) h2
end
end Go.Proofs.YtjjelnpehgoagaaGreatDoor
namespace Go.Proofs.YtjjelnpehgoagaaGreatDoor
open Go.RowKit
set_option linter.unusedVariables false
set_option maxRecDepth 100000
section
variable {P : Program} {T : Tab} {L N : Nat} {ops : Array Oper} {E : Env} {F : Nat → Prop} {μ : Places} {w : World} {i : Nat} {is : List Nat} {t : Nat → AV} {h h' hc : Heap} {ι : Nat → Nat}

theorem ObjRep.unren {μc : Places} (R : Ren ι μc hc μ h) {p : Option Nat} {o : AObj} (r : ObjRep w F μ h p (o.ren ι)) : ObjRep w F μc hc p o := by
  rcases r with ⟨h1, h2⟩ | ⟨b, cur, h1, h2, h3⟩
  · exact .inl ⟨h1, by simpa [AObj.ren, Cells.ren_len] using h2⟩
  · refine .inr ⟨b, cur, h1, h2, fun i cells hi => ?_⟩
    obtain ⟨q1, q2⟩ := h3 i (AV.renL ι cells) (by simp only [AObj.ren, Cells.ren_get, hi, Option.map_some])
    rw [renL_len] at q1
    refine ⟨q1, fun j c hj => ?_⟩
    obtain ⟨u, hu, hr⟩ := q2 j (c.ren ι) (by rw [renL_get, hj]; rfl)
    exact ⟨u, hu, hr.unren R c rfl⟩
theorem HInv.restrict (H : HInv E F μ h w) (hι : ∀ p q, ι p = ι q → p = q) (R : Ren ι (fun p f => μ (ι p) f) hc μ h) (hid : ∀ p, E.h0 p ≠ .no → ι p = p) : HInv E F (fun p f => μ (ι p) f) hc w := by
  have up : ∀ {p f o}, lv hc p f = some o → lv h (ι p) f = some (o.ren ι) := fun hl => by rw [R.lv_, hl]; rfl
  refine ⟨fun k f o hl => (H.ob _ _ _ (up hl)).unren R, fun k f o k' f' o' b h1 h2 m1 m2 => ?_, fun k f o b hl hm => H.sep _ _ _ b (up hl) hm, fun k f o b hl hm => H.src _ _ _ b (up hl) hm, H.fz, H.fsrc, ⟨H.ev.fr, H.ev.fs, fun p hp => ?_, fun p f o' hp ho' => ?_⟩, H.os, H.tape, H.output, H.size, H.keep⟩
  · obtain ⟨e1, e2⟩ := H.inj _ _ _ _ _ _ b (up h1) (up h2) m1 m2
    exact ⟨hι _ _ e1, e2⟩
  · intro e
    have h1 := (R.no_ p).2 e
    rw [hid p hp] at h1
    exact H.ev.born p hp h1
  · have h1 := up ho'
    rw [hid p hp] at h1
    obtain ⟨o, ho, hx⟩ := H.ev.live p f _ hp h1
    refine ⟨o, ho, ?_⟩
    simp only [hid p hp]
    simpa [AObj.ren, Cells.ren_len] using hx

def nameL (ks : List Nat) (B : Nat) (p : Nat) : Nat := match ks[p]? with | some k => k | none => B + p
theorem nameL_inj {ks : List Nat} {B : Nat} (hnd : ks.Nodup) (hlt : ∀ k ∈ ks, k < B) : ∀ p q, nameL ks B p = nameL ks B q → p = q := fun p q e => by
  unfold nameL at e
  cases hp : ks[p]? with
  | none =>
    cases hq : ks[q]? with
    | none => rw [hp, hq] at e; have e : B + p = B + q := e; omega
    | some k => rw [hp, hq] at e; have e : B + p = k := e; have := hlt k (List.mem_of_getElem? hq); omega
  | some k =>
    cases hq : ks[q]? with
    | none => rw [hp, hq] at e; have e : k = B + q := e; have := hlt k (List.mem_of_getElem? hp); omega
    | some k' =>
      rw [hp, hq] at e
      have e : k = k' := e
      subst e
      exact (List.getElem?_inj (List.getElem?_eq_some_iff.1 hp).1 hnd).1 (hp.trans hq.symm)
inductive AtK (ι : Nat → Nat) (h : Heap) : List Nat → List Slot → Prop
  | nil : AtK ι h [] []
  | cons {k : Nat} {s s' : Slot} {ks : List Nat} {ss : List Slot} (hs : h k = s') (hr : RenS ι s s') (q : AtK ι h ks ss) : AtK ι h (k :: ks) (s :: ss)
theorem AtK.spec {ks : List Nat} {ss : List Slot} (a : AtK ι h ks ss) : ks.length = ss.length ∧ ∀ (p : Nat) k s, ks[p]? = some k → ss[p]? = some s → h k = s.ren ι := by
  induction a with
  | nil => exact ⟨rfl, fun p k s h => by simp at h⟩
  | cons hs hr q ih =>
    refine ⟨by simp [ih.1], fun p k s h1 h2 => ?_⟩
    cases p with
    | zero => simp at h1 h2; subst h1 h2; rw [hs, hr.eq_]
    | succ p => simp at h1 h2; exact ih.2 p k s h1 h2
theorem AtK.ren_ {ks : List Nat} {B : Nat} {ss : List Slot} (a : AtK (nameL ks B) h ks ss) (hB : Abv h B) : Ren (nameL ks B) (fun p f => μ (nameL ks B p) f) (lks ss) μ h := by
  refine ⟨fun p => ?_, fun p f => rfl⟩
  obtain ⟨q1, q2⟩ := a.spec
  unfold lks
  rw [List.getD_eq_getElem?_getD]
  cases hp : ks[p]? with
  | none =>
    have : ss[p]? = none := by rw [List.getElem?_eq_none_iff] at hp ⊢; omega
    rw [this]
    have e : nameL ks B p = B + p := by unfold nameL; rw [hp]
    rw [e, hB _ (by omega)]; rfl
  | some k =>
    have hlt : p < ss.length := by have := (List.getElem?_eq_some_iff.1 hp).1; omega
    have e : nameL ks B p = k := by unfold nameL; rw [hp]
    rw [e, q2 p k _ hp (List.getElem?_eq_getElem hlt), List.getElem?_eq_getElem hlt]; rfl

structure RetOk (T : Tab) (N : Nat) (fn : Func) (m : Nat) (hout : List Slot) (r : AV) (σ : AS) : Prop where
  ex : ∃ rs as r' ks B, fn.results.toList = rs ∧ ResR T N σ rs as ∧ resA as = r' ∧ ks.Nodup ∧ (∀ k ∈ ks, k < B) ∧ (∀ p, p < m → nameL ks B p = p) ∧ Abv σ.h B ∧ AtK (nameL ks B) σ.h ks hout ∧ r' = r.ren (nameL ks B)
def retQ (T : Tab) (N : Nat) (fn : Func) (m : Nat) (hout : List Slot) (r : AV) : AExit → AS → Prop
  | .normal, σ => RetOk T N fn m hout r σ
  | .ret, σ => RetOk T N fn m hout r σ
  | _, _ => False
def argT : List AV → Nat → Nat → AV
  | [], _ => fun _ => .dead
  | a :: as, k => updA (argT as (k + 1)) k a
theorem argT_get : ∀ (as : List AV) (k p : Nat), argT as k (k + p) = as.getD p .dead
  | [], k, p => by simp [argT]
  | a :: as, k, 0 => by simp [argT, updA_same]
  | a :: as, k, p + 1 => by
    rw [argT, updA_ne _ _ (by omega), show k + (p + 1) = k + 1 + p by omega, argT_get as (k + 1) p]; simp
theorem argT_at (as : List AV) (t : Nat) : argT as 0 t = as.getD t .dead := by have := argT_get as 0 t; rwa [Nat.zero_add] at this

theorem fnc_introL (hT : TOk P T) {f : FuncId} {fn : Func} {body : Code} {hin hout : List Slot} {as : List AV} {r : AV} (hf : P.funcs[f]? = some fn) (hb : fn.body = some body) (hN : fn.ntmps = N) (hc : callB P f = true) (hl : Nat.ble as.length N = true) (hm : Nat.ble hin.length L = true)
    (hw : AW L P N body (retQ T N fn hin.length hout r) ⟨argT as 0, lks hin⟩) : FnC P f hin as hout r := by
  refine ⟨hc, fun w F μ vs gl H hs hr => ?_⟩
  have hle := Nat.le_of_ble_eq_true hl
  refine calls_of_wp hf hb (wp_mono (hw ⟨w, F, μ, lks hin, gl⟩ _ w ⟨F, μ, H, rfl, ?_, fun t ht => ?_, fun p hp => ?_⟩) fun e a w' q => ?_)
  · simp [hN]; omega
  · simp only
    rw [argT_at]
    rcases Nat.lt_or_ge t as.length with hlt | hge
    · have h1 : as.getD t .dead = as[t] := by simp [List.getD, hlt]
      have h2 : (vs ++ Array.replicate (fn.ntmps - vs.size) undef).getD t undef = vs[t]'(by omega) := by
        have : t < vs.size := by omega
        simp [Array.getElem?_append, this]
      rw [h1, h2]
      exact hr t _ _ (Array.getElem?_eq_getElem (by omega)) (List.getElem?_eq_getElem hlt)
    · have h1 : as.getD t .dead = .dead := by simp [List.getD, List.getElem?_eq_none hge]
      rw [h1]
      exact .dead _
  · have := Nat.le_of_ble_eq_true hm
    show lks hin p = .no
    unfold lks
    simp [List.getD, List.getElem?_eq_none (show hin.length ≤ p by omega)]
  · have fin : ∀ σ, Abs L ⟨w, F, μ, lks hin, gl⟩ N σ a w' → RetOk T N fn hin.length hout r σ → a.defers = [] ∧ ∃ v, (results fn a.tmps).run P w' = .ok v w' ∧
        (∃ v' F' μ', Ending.returned v = .returned v' ∧ HInv ⟨w, F, μ, lks hin, gl⟩ F' μ' (lks hout) w' ∧ ARep w' F' μ' (lks hout) v' r) := by
      rintro σ ⟨F', μ', A⟩ ⟨rs, as', r', ks, B, q1, q2, q3, q4, q5, q6, q7, q8, q9⟩
      obtain ⟨v, hv, hr⟩ := results_run hT q1 q2 A
      have R := q8.ren_ (μ := μ') q7
      refine ⟨A.df, v, hv, v, F', _, rfl, A.H.restrict (nameL_inj q4 q5) R (fun p hp => ?_), ?_⟩
      · refine q6 p ?_
        rcases Nat.lt_or_ge p hin.length with hlt | hge
        · exact hlt
        · exfalso
          apply hp
          show lks hin p = .no
          unfold lks
          simp [List.getD, List.getElem?_eq_none hge]
      · rw [q3] at hr
        exact hr.unren R r q9
    cases e with
    | normal => obtain ⟨σ, A, q⟩ := q; exact fin σ A q
    | ret => obtain ⟨σ, A, q⟩ := q; exact fin σ A q
    | exit i => obtain ⟨σ, A, q⟩ := q; exact q.elim
    | goto l => obtain ⟨σ, A, q⟩ := q; exact q.elim
    | panic c => exact q.elim
    | outgrown => exact q.elim

theorem fnc_intro (hT : TOk P T) {f : FuncId} {fn : Func} {body : Code} {hin hout : List Slot} {as : List AV} {r : AV} (hf : P.funcs[f]? = some fn) (hb : fn.body = some body) (hN : fn.ntmps = N) (hc : callB P f = true) (hl : Nat.ble as.length N = true) (hm : Nat.ble hin.length 3 = true)
    (hw : AW 3 P N body (retQ T N fn hin.length hout r) ⟨argT as 0, lks hin⟩) : FnC P f hin as hout r := fnc_introL (L := 3) hT hf hb hN hc hl hm hw
theorem abv_lks {ss : List Slot} {B : Nat} (hl : Nat.ble ss.length B = true) : Abv (lks ss) B := fun k hk => by
  have := Nat.le_of_ble_eq_true hl
  unfold lks
  simp [List.getD, List.getElem?_eq_none (show ss.length ≤ k by omega)]
mutual
theorem ren_free {ι : Nat → Nat} : ∀ {a : AV}, a.free = true → a.ren ι = a
  | .d _, _ => rfl
  | .agg cs, h => by rw [AV.ren, renL_free (by simpa [AV.free] using h)]
  | .tup cs, h => by rw [AV.ren, renL_free (by simpa [AV.free] using h)]
  | .ref _, _ => rfl
  | .ptr .., h => by simp [AV.free] at h
  | .own .., h => by simp [AV.free] at h
  | .fn _ cs, h => by rw [AV.ren, renL_free (by simpa [AV.free] using h)]
  | .dead, _ => rfl
theorem renL_free {ι : Nat → Nat} : ∀ {l : List AV}, AV.freeL l = true → AV.renL ι l = l
  | [], _ => rfl
  | c :: cs, h => by
    simp [AV.freeL] at h
    rw [AV.renL, ren_free h.1, renL_free h.2]
end
theorem ret0 {fn : Func} {rs : List ResultVar} {as : List AV} {r : AV} (B : Nat) (hrs : fn.results.toList = rs) (R : ResR T N ⟨t, h⟩ rs as) (hB : Abv h B) (hf : r.free = true) (e : resA as = r) : RetOk T N fn 0 [] r ⟨t, h⟩ :=
  ⟨rs, as, r, [], B, hrs, R, e, .nil, fun k hk => (by cases hk), fun p hp => absurd hp (Nat.not_lt_zero p), hB, .nil, (ren_free hf).symm⟩
theorem retK {fn : Func} {rs : List ResultVar} {as : List AV} {r : AV} {hout : List Slot} (ks : List Nat) (B : Nat) (hrs : fn.results.toList = rs) (R : ResR T N ⟨t, h⟩ rs as) (hB : Abv h B) (hnd : ks.Nodup) (hlt : ∀ k ∈ ks, k < B) (hk : AtK (nameL ks B) h ks hout) (e : resA as = r.ren (nameL ks B)) : RetOk T N fn 0 hout r ⟨t, h⟩ :=
  ⟨rs, as, _, ks, B, hrs, R, rfl, hnd, hlt, fun p hp => absurd hp (Nat.not_lt_zero p), hB, hk, e⟩
variable {c : Code} {Q : AExit → AS → Prop}
theorem RenR.of_own {ι : Nat → Nat} {k k' f n n' : Nat} (e : n = n') (h : ι k = k') : RenR ι (.own k f n) (.own k' f n') := by subst e; exact .own _ _ _ _ h
inductive WT (ι : Nat → Nat) (s : Nat → AV) : (Nat → AV) → Prop
  | nil : WT ι s fun _ => .dead
  | upd {t : Nat → AV} {d : Nat} {r r' : AV} (h : s d = r') (hr : r' = r.ren ι) (k : WT ι s t) : WT ι s (updA t d r)
theorem WT.spec {s t : Nat → AV} (wt : WT ι s t) (d : Nat) : s d = (t d).ren ι ∨ t d = .dead := by
  induction wt with
  | nil => exact .inr rfl
  | upd h hr k ih =>
    rename_i t d' r r'
    by_cases e : d = d'
    · subst e; rw [updA_same, h, hr]; exact .inl rfl
    · rw [updA_ne _ _ e]; exact ih
theorem WT.ren_ {s t : Nat → AV} {d : Nat} {r r' : AV} (h : s d = r') (hr : RenR ι r r') (k : WT ι s t) : WT ι s (updA t d r) := .upd h hr.eq_ k
theorem WT.free_ {s t : Nat → AV} {d : Nat} {r : AV} (hf : r.free = true) (h : s d = r) (k : WT ι s t) : WT ι s (updA t d r) := .upd h (ren_free hf).symm k
inductive WH (ι : Nat → Nat) (h : Heap) : Nat → List Slot → Prop
  | nil (k : Nat) : WH ι h k []
  | cons {k : Nat} {s s' : Slot} {ss : List Slot} (hs : h k = s') (hr : RenS ι s s') (q : WH ι h (k + 1) ss) : WH ι h k (s :: ss)
theorem WH.spec {k : Nat} {ss : List Slot} (wh : WH ι h k ss) : ∀ (p : Nat) s, ss[p]? = some s → h (k + p) = s.ren ι := by
  induction wh with
  | nil k => intro p s h; simp at h
  | cons hs hr q ih =>
    intro p s hp
    cases p with
    | zero => simp at hp; subst hp; rw [Nat.add_zero, hs, hr.eq_]
    | succ p => simp at hp; have := ih p s hp; rw [show ∀ k : Nat, k + (p + 1) = k + 1 + p by omega]; exact this
theorem WH.data_ {k : Nat} {ty : TypeId} {sz : Nat} {es : List (List DV)} {ss : List Slot} (hs : h k = .live [⟨ty, sz, .data es⟩]) (q : WH ι h (k + 1) ss) : WH ι h k (.live [⟨ty, sz, .data es⟩] :: ss) := .cons hs (.data _ _ _) q
theorem AtK.data_ {k : Nat} {ty : TypeId} {sz : Nat} {es : List (List DV)} {ks : List Nat} {ss : List Slot} (hs : h k = .live [⟨ty, sz, .data es⟩]) (q : AtK ι h ks ss) : AtK ι h (k :: ks) (.live [⟨ty, sz, .data es⟩] :: ss) := .cons hs (.data _ _ _) q
theorem weak_adopt_t (k : Nat) (hk : h k = .no) (et : TypeId) (esz : Nat) {d : Nat} (hd : t d = .d (.v (.slice none 0 0))) :
    Weak L N ⟨t, h⟩ ⟨updA t d (.own k 0 0), upd h k (.live [⟨et, esz, .data []⟩])⟩ := by
  rintro E a w ⟨F, μ, A⟩
  obtain ⟨H1, V1⟩ := A.H.adopt k hk ⟨et, esz, .data []⟩ rfl
  refine ⟨F, _, H1, A.df, A.sz, fun d' hd' => ?_, A.lim⟩
  · by_cases e : d' = d
    · subst e
      have h1 := A.tm d' hd'
      dsimp only at h1 ⊢
      rw [hd] at h1
      have h6 := rep_v h1
      rw [h6, updA_same]
      refine .own _ _ _ _ rfl (by rw [upd_same]; intro e; cases e) fun o ho => ?_
      rw [lv_upd_same] at ho
      simp at ho
      subst ho
      exact ⟨Nat.le_refl _, fun _ => .inl ⟨updP_same _ _ _ _, rfl, rfl⟩⟩
    · dsimp only; rw [updA_ne _ _ e]
      exact (A.tm d' hd').evo V1
theorem weak_adopt (k : Nat) (hk : h k = .no) (et : TypeId) (esz : Nat) {kb : Nat} {bt : TypeId} {sz j : Nat} {cells cells' : List AV} (hb : h kb = .live [⟨bt, sz, .av [cells]⟩]) (hj : cells[j]? = some (.d (.v (.slice none 0 0)))) (hs : Spl j [.own k 0 0] cells cells') :
    Weak L N ⟨t, h⟩ ⟨t, upd (upd h k (.live [⟨et, esz, .data []⟩])) kb (.live [⟨bt, sz, .av [cells']⟩])⟩ := by
  rintro E a w ⟨F, μ, A⟩
  obtain ⟨H1, V1⟩ := A.H.adopt k hk ⟨et, esz, .data []⟩ rfl
  have hkb : kb ≠ k := fun e => by rw [e, hk] at hb; cases hb
  have hb1 : upd h k (.live [⟨et, esz, .data []⟩]) kb = .live [⟨bt, sz, .av [cells]⟩] := by rw [upd_ne _ _ hkb]; exact hb
  obtain ⟨s1, s2, s3, s4⟩ := hs.spec
  have hl1 : lv (upd h k (.live [⟨et, esz, .data []⟩])) kb 0 = some ⟨bt, sz, .av [cells]⟩ := by rw [lv_live hb1]; rfl
  obtain ⟨b, cur, hm, hcur, hat⟩ := own_at H1 hl1 (by simp [Cells.len])
  obtain ⟨c1, c2⟩ := hat 0 cells rfl
  have hcurlt : b < w.heap.size := (Array.getElem?_eq_some_iff.1 hcur).1
  obtain ⟨H2, V2⟩ := H1.put (w' := w) hb1 (f := 0) rfl (o' := ⟨bt, sz, .av [cells']⟩) b cur (Nat.le_refl _) rfl rfl rfl (fun _ _ _ => rfl) (.inl hm) hcurlt hcur (.inr ⟨rfl, rfl, rfl, hm, fun cur2 h2 => by rw [hcur] at h2; injection h2 with h2; injection h2 with h2; rw [h2]⟩) (fun i cl hcl => by
    cases i with
    | succ i => simp [Cells.get] at hcl
    | zero =>
      simp only [Cells.get, List.getElem?_cons_zero, Option.some.injEq] at hcl
      subst hcl
      refine ⟨s1.trans c1, fun j' x hx => ?_⟩
      by_cases e : j' = j
      · subst e
        obtain ⟨u, hu, hr⟩ := c2 j' _ hj
        refine ⟨u, hu, ?_⟩
        have h5 := s4 0 (by simp)
        rw [Nat.add_zero, hx] at h5
        simp at h5
        subst h5
        have h6 := rep_v hr
        subst h6
        refine .own _ _ _ _ rfl (by rw [upd_same]; intro e; cases e) fun o ho => ?_
        rw [lv_upd_same] at ho
        simp at ho
        subst ho
        exact ⟨Nat.le_refl _, fun _ => .inl ⟨updP_same _ _ _ _, rfl, rfl⟩⟩
      · rw [s3 j' (by simp; omega)] at hx
        exact c2 j' x hx)
  refine ⟨F, _, H2, A.df, A.sz, fun d hd => ?_, A.lim⟩
  exact ((A.tm d hd).evo V1).evo V2
end
end Go.Proofs.YtjjelnpehgoagaaGreatDoor
namespace Go.Proofs.YtjjelnpehgoagaaGreatDoor
open Go.RowKit
set_option linter.unusedVariables false
set_option maxRecDepth 100000
theorem map_at {α β : Type} {f : α → β} {xs : List α} {k : Nat} {x : α} (h : xs[k]? = some x) : (xs.map f)[k]? = some (f x) := by simp [h]
section
variable {P : Program} {T : Tab} {L N : Nat} {ops : Array Oper} {E : Env} {F : Nat → Prop} {μ : Places} {w : World} {i : Nat} {is : List Nat} {t : Nat → AV} {h h' hc : Heap} {ι : Nat → Nat} {d : Tmp} {dst : Option Tmp} {op : Op} {ty : TypeId} {pos : String} {aft : Array Edge} {g : Option (Nat × Bool)}

inductive UpdR (ι : Nat → Nat) : Heap → List Nat → List Slot → Heap → Prop
  | nil (h : Heap) : UpdR ι h [] [] h
  | cons {h h' : Heap} {k : Nat} {s s' : Slot} {ks : List Nat} {ss : List Slot} (hs : RenS ι s s') (q : UpdR ι (upd h k s') ks ss h') : UpdR ι h (k :: ks) (s :: ss) h'
theorem UpdR.other {ks : List Nat} {ss : List Slot} (u : UpdR ι h ks ss h') (k : Nat) (hk : k ∉ ks) : h' k = h k := by
  induction u with
  | nil => rfl
  | cons hs q ih =>
    simp only [List.mem_cons, not_or] at hk
    rw [ih hk.2, upd_ne _ _ hk.1]
theorem UpdR.at_ {ks : List Nat} {ss : List Slot} (u : UpdR ι h ks ss h') (hnd : ks.Nodup) : ks.length = ss.length ∧ ∀ (p : Nat) k s, ks[p]? = some k → ss[p]? = some s → h' k = s.ren ι := by
  induction u with
  | nil => exact ⟨rfl, fun p k s h => by simp at h⟩
  | cons hs q ih =>
    obtain ⟨h1, h2⟩ := List.nodup_cons.1 hnd
    obtain ⟨a1, a2⟩ := ih h2
    refine ⟨by simp [a1], fun p k s hp1 hp2 => ?_⟩
    cases p with
    | zero => simp at hp1 hp2; subst hp1 hp2; rw [q.other _ h1, upd_same, hs.eq_]
    | succ p => simp at hp1 hp2; exact a2 p k s hp1 hp2
theorem HInv.hand {gl : Glob F w} (H : HInv E F μ h w) (hι : ∀ p q, ι p = ι q → p = q) (R : Ren ι (fun p f => μ (ι p) f) hc μ h) : HInv ⟨w, F, fun p f => μ (ι p) f, hc, gl⟩ F (fun p f => μ (ι p) f) hc w := by
  have up : ∀ {p f o}, lv hc p f = some o → lv h (ι p) f = some (o.ren ι) := fun hl => by rw [R.lv_, hl]; rfl
  refine ⟨fun k f o hl => (H.ob _ _ _ (up hl)).unren R, fun k f o k' f' o' b h1 h2 m1 m2 => ?_, fun k f o b hl hm => H.sep _ _ _ b (up hl) hm, fun k f o b hl hm => .inl ⟨k, f, o, hl, hm⟩, H.fz, fun b hb => .inl hb, Evo.refl_, rfl, rfl, rfl, Nat.le_refl _, fun _ _ _ => rfl⟩
  obtain ⟨e1, e2⟩ := H.inj _ _ _ _ _ _ b (up h1) (up h2) m1 m2
  exact ⟨hι _ _ e1, e2⟩
theorem RenRL.get {as bs : List AV} (r : RenRL ι as bs) : bs = AV.renL ι as := r.eq_
open Classical in
theorem wr_callP (ks : List Nat) (B : Nat) {f : FuncId} {x : Operand} {args : Array Operand} {at_ : Array TypeId} {caps as as' : List AV} {hin hout : List Slot} {r r' : AV} (hx : evA N ⟨t, h⟩ x = .fn f caps) (ha : evL N ⟨t, h⟩ args.toList ++ caps = as') (har : RenRL (nameL ks B) as as') (hF : FnC P f hin as hout r)
    (hB : Abv h B) (hnd : ks.Nodup) (hlt : ∀ k ∈ ks, k < B) (hk : AtK (nameL ks B) h ks hin) (hb : UpdR (nameL ks B) h ks hout h') (hr : RenR (nameL ks B) r r') : Heavy1 P N ⟨dst, .call ⟨.value x, args, at_⟩, ty, pos, aft, g⟩ ⟨t, h⟩ r' h' := fun E F μ w ρ H st => by
  obtain ⟨cap, c1, c2, c3⟩ := args_rep st hx
  rw [call_run hF.c c1]
  rw [ha] at c2 c3
  have R := hk.ren_ (μ := μ) hB
  have inj := nameL_inj hnd hlt
  refine (hF.g w F (fun p f => μ (nameL ks B p) f) _ H.glob (H.hand inj R) (by rw [c2, har.eq_, renL_len]) fun i v a h1 h2 => ?_).mono ?_
  · have h3 : as'[i]? = some (a.ren (nameL ks B)) := by rw [har.eq_, renL_get, h2]; rfl
    exact (c3 i v _ h1 h3).unren R a rfl
  · rintro e w' ⟨v, F', μ1, rfl, H1, hv⟩
    obtain ⟨u1, u2⟩ := hb.at_ hnd
    have inks : ∀ p, p < ks.length → nameL ks B p ∈ ks := fun p hp => by
      have : nameL ks B p = ks[p] := by unfold nameL; rw [List.getElem?_eq_getElem hp]
      rw [this]; exact List.getElem_mem hp
    have hi : ∀ p, ks.length ≤ p → nameL ks B p = B + p := fun p hp => by unfold nameL; rw [List.getElem?_eq_none hp]
    have R1 : Ren (nameL ks B) μ1 (lks hout) (fun k f => if ∃ p, k = nameL ks B p then μ1 (if hk : ∃ p, k = nameL ks B p then hk.choose else 0) f else μ k f) h' := by
      refine ⟨fun p => ?_, fun p f => ?_⟩
      · unfold lks
        rw [List.getD_eq_getElem?_getD]
        rcases Nat.lt_or_ge p ks.length with hp | hp
        · have e1 : nameL ks B p = ks[p] := by unfold nameL; rw [List.getElem?_eq_getElem hp]
          rw [e1, u2 p _ _ (List.getElem?_eq_getElem hp) (List.getElem?_eq_getElem (show p < hout.length by omega)), List.getElem?_eq_getElem (show p < hout.length by omega)]; rfl
        · rw [hi p hp, hb.other _ (fun hm => by have := hlt _ hm; omega), hB _ (by omega), List.getElem?_eq_none (show hout.length ≤ p by omega)]; rfl
      · have hex : ∃ q, nameL ks B p = nameL ks B q := ⟨p, rfl⟩
        rw [if_pos hex, dif_pos hex, inj _ _ hex.choose_spec.symm]
    have hoth : ∀ k, (∀ p, k ≠ nameL ks B p) → h' k = h k := fun k hk => hb.other k fun hm => by
      obtain ⟨p, hp, e⟩ := List.mem_iff_getElem.1 hm
      refine hk p ?_
      unfold nameL
      rw [List.getElem?_eq_getElem hp, e]
    obtain ⟨J1, J2⟩ := H.join inj R H1 R1 (fun k hk => ⟨hoth k hk, fun f => by rw [if_neg (fun ⟨p, hp⟩ => hk p hp)]⟩)
    exact ⟨v, rfl, F', _, J1, J2, by rw [hr.eq_]; exact hv.ren R1⟩

theorem retP {fn : Func} {rs : List ResultVar} {as : List AV} {r : AV} {hout : List Slot} (m B : Nat) (hm : Nat.beq hout.length m = true) (hrs : fn.results.toList = rs) (R : ResR T N ⟨t, h⟩ rs as) (hB : Abv h B) (hlt : Nat.blt m B = true) (hk : AtK (nameL (List.range m) B) h (List.range m) hout) (e : resA as = r.ren (nameL (List.range m) B)) : RetOk T N fn m hout r ⟨t, h⟩ := by
  have hml := blt_lt hlt
  refine ⟨rs, as, _, List.range m, B, hrs, R, rfl, List.nodup_range, fun k hk => ?_, fun p hp => ?_, hB, hk, e⟩
  · have := List.mem_range.1 hk; omega
  · unfold nameL; rw [List.getElem?_range hp]

section ints
variable {xt yt : TypeId} {x y : Operand}
theorem pu_cat {a b : ByteArray} (hx : evA N ⟨t, h⟩ x = .d (.v (.string a))) (hy : evA N ⟨t, h⟩ y = .d (.v (.string b))) (hs : a.size + b.size ≤ 9223372036854775807) : Pure1 P N ⟨some d, .binOp .add xt x y yt, ty, pos, aft, g⟩ ⟨t, h⟩ (.d (.v (.string (a ++ b)))) :=
  pu_bin (by rw [hx]; rfl) (by rw [hy]; rfl) fun w => by
    have : ¬ (9223372036854775807 : Int) < (a.size : Int) + (b.size : Int) := by omega
    simp [eqGuard, binOp, Op.stringOp, this]
theorem bytes_eq (a b : ByteArray) : (a.toList == b.toList) = decide (a = b) := by
  by_cases e : a = b
  · subst e; simp
  · rw [decide_eq_false e, beq_eq_false_iff_ne]
    rw [ByteArray.toList_eq, ByteArray.toList_eq]
    intro h
    apply e
    cases a; cases b; simp at h; simp [h]
theorem bytes_inj (a b : ByteArray) : (a.toList = b.toList) = (a = b) := by
  apply propext
  constructor
  · intro e
    have := bytes_eq a b
    rw [e] at this
    simpa using this.symm
  · intro e; rw [e]
theorem pu_seql {a b : ByteArray} (hx : evA N ⟨t, h⟩ x = .d (.v (.string a))) (hy : evA N ⟨t, h⟩ y = .d (.v (.string b))) : Pure1 P N ⟨some d, .binOp .eql xt x y yt, ty, pos, aft, g⟩ ⟨t, h⟩ (.d (.v (.bool (decide (a = b))))) :=
  pu_bin (by rw [hx]; rfl) (by rw [hy]; rfl) fun w => by simp [eqGuard, binOp, Op.stringOp, bytes_eq]
theorem pu_sneq {a b : ByteArray} (hx : evA N ⟨t, h⟩ x = .d (.v (.string a))) (hy : evA N ⟨t, h⟩ y = .d (.v (.string b))) : Pure1 P N ⟨some d, .binOp .neq xt x y yt, ty, pos, aft, g⟩ ⟨t, h⟩ (.d (.v (.bool (decide (a ≠ b))))) :=
  pu_bin (by rw [hx]; rfl) (by rw [hy]; rfl) fun w => by simp [eqGuard, binOp, Op.stringOp, bytes_eq]
theorem pu_bneq (hT : TOk P T) {a b : Bool} {ti : TI} (hx : evA N ⟨t, h⟩ x = .d (.v (.bool a))) (hy : evA N ⟨t, h⟩ y = .d (.v (.bool b))) (h1 : T xt = some ti) (h2 : ti.desc = .bool) : Pure1 P N ⟨some d, .binOp .neq xt x y yt, ty, pos, aft, g⟩ ⟨t, h⟩ (.d (.v (.bool (a != b)))) :=
  pu_bin (by rw [hx]; rfl) (by rw [hy]; rfl) fun w => by
    have hu := (hT _ _ h1).1
    rw [h2] at hu
    have e : ∀ n, (Op.equalIn (n + 1) xt (.bool a) (.bool b)).run P w = .ok (a == b) w := fun n => by simp [Op.equalIn, run_underlying hu]
    have e2 : (Op.equal xt (.bool a) (.bool b)).run P w = .ok (a == b) w := e 9999
    simp [eqGuard, binOp, e2, bne]
theorem pu_min {k : IntKind} {a b : Int} {at_ : Array TypeId} (hx : evA N ⟨t, h⟩ x = .d (.v (.int k a))) (hy : evA N ⟨t, h⟩ y = .d (.v (.int k b))) : Pure1 P N ⟨some d, .call ⟨.builtin .min, #[x, y], at_⟩, ty, pos, aft, g⟩ ⟨t, h⟩ (.d (.v (.int k (min a b)))) := fun w F μ hh ρ st => by
  have h1 := rep_v (by have := st x (by simp [Op.operands, Call.operands]); rw [hx] at this; exact this)
  have h2 := rep_v (by have := st y (by simp [Op.operands, Call.operands]); rw [hy] at this; exact this)
  refine ⟨.int k (min a b), ?_, .d _ _ (.v _ rfl)⟩
  have : (if b < a then b else a) = min a b := by split <;> omega
  simp [execOp, resolve, invoke, builtin, h1, h2, Builtin.min_, Builtin.min2, this]
end ints

inductive Pre : List DV → List DV → Prop
  | z (l : List DV) : Pre l []
  | t {a : DV} {l r : List DV} (h : Pre l r) : Pre (a :: l) (a :: r)
theorem view_ref {cs ds : List DV} (hp : Pre cs ds) : View h (.ref cs) (.ref ds) := by
  refine .ref cs ds ?_
  induction hp with
  | z l => intro j x hx; simp at hx
  | t k ih =>
    intro j x hx
    cases j with
    | zero => exact hx
    | succ j => exact ih j x hx
inductive PreA : Nat → List AV → List DV → Prop
  | z (l : List AV) : PreA 0 l []
  | t {x : DV} {l : List AV} {r : List DV} (h : PreA 0 l r) : PreA 0 (.d x :: l) (x :: r)
  | d {o : Nat} {a : AV} {l : List AV} {r : List DV} (h : PreA o l r) : PreA (o + 1) (a :: l) r
theorem PreA.spec {o : Nat} {l : List AV} {r : List DV} (h : PreA o l r) : o + r.length ≤ l.length ∧ ∀ (t : Nat) (c : AV) (x : DV), l[o + t]? = some c → r[t]? = some x → c = .d x := by
  induction h with
  | z l => exact ⟨by simp, fun t c x _ hx => by simp at hx⟩
  | t k ih =>
    refine ⟨by simp; have := ih.1; omega, fun t c x hc hx => ?_⟩
    cases t with
    | zero => simp at hc hx; rw [← hc, hx]
    | succ t => exact ih.2 t c x (by simpa using hc) (by simpa using hx)
  | @d o a l r k ih =>
    refine ⟨by simp; have := ih.1; omega, fun t c x hc hx => ?_⟩
    rw [show o + 1 + t = o + t + 1 by omega, List.getElem?_cons_succ] at hc
    exact ih.2 t c x hc hx
theorem view_part {k j : Nat} {ty : TypeId} {sz : Nat} {cells : List AV} {ds : List DV} (hk : h k = .live [⟨ty, sz, .av [cells]⟩]) (hd : PreA j cells ds) : View h (.ptr k 0 1 0 j) (.ref ds) := by
  refine .ptr k 0 1 0 j ⟨ty, sz, .av [cells]⟩ cells ds (by rw [lv_live hk]; rfl) rfl rfl (by have := hd.spec.1; omega) fun t c x hc hx => ?_
  rw [hd.spec.2 t c x hc hx]
  exact .d x

inductive PreV (h : Heap) : Nat → List AV → List DV → Prop
  | z (l : List AV) : PreV h 0 l []
  | t {c : AV} {x : DV} {l : List AV} {r : List DV} (hv : View h c (.d x)) (k : PreV h 0 l r) : PreV h 0 (c :: l) (x :: r)
  | d {o : Nat} {a : AV} {l : List AV} {r : List DV} (k : PreV h o l r) : PreV h (o + 1) (a :: l) r
theorem PreV.spec {o : Nat} {l : List AV} {r : List DV} (q : PreV h o l r) : o + r.length ≤ l.length ∧ ∀ (t : Nat) (c : AV) (x : DV), l[o + t]? = some c → r[t]? = some x → View h c (.d x) := by
  induction q with
  | z l => exact ⟨by simp, fun t c x _ hx => by simp at hx⟩
  | t hv k ih =>
    refine ⟨by simp; have := ih.1; omega, fun t c x hc hx => ?_⟩
    cases t with
    | zero => simp at hc hx; rw [← hc, ← hx]; exact hv
    | succ t => exact ih.2 t c x (by simpa using hc) (by simpa using hx)
  | @d o a l r k ih =>
    refine ⟨by simp; have := ih.1; omega, fun t c x hc hx => ?_⟩
    rw [show o + 1 + t = o + t + 1 by omega, List.getElem?_cons_succ] at hc
    exact ih.2 t c x hc hx
theorem view_partV {k j : Nat} {ty : TypeId} {sz : Nat} {cells : List AV} {ds : List DV} (hk : h k = .live [⟨ty, sz, .av [cells]⟩]) (hd : PreV h j cells ds) : View h (.ptr k 0 1 0 j) (.ref ds) := by
  refine .ptr k 0 1 0 j ⟨ty, sz, .av [cells]⟩ cells ds (by rw [lv_live hk]; rfl) rfl rfl (by have := hd.spec.1; omega) fun t c x hc hx => ?_
  exact hd.spec.2 t c x hc hx

theorem calls_of {f : FuncId} {as : List AV} {hs : List Slot} {b : Value} (hF : FnC P f [] as hs (.d (.v b))) (W : World) (vs : Array Value) (hl : vs.size = as.length) (hr : ∀ (i : Nat) v a, vs[i]? = some v → as[i]? = some a → ARep W (fun b => b < W.heap.size) (fun _ _ => none) (lks []) v a)  (hgl : Glob (fun b => b < W.heap.size) W := by intro x hx; simp [globs] at hx) :
    Calls P f vs W fun e w' => e = .returned b ∧ Below W.heap.size W w' := by
  refine (hF.g W (fun b => b < W.heap.size) (fun _ _ => none) vs hgl (HInv.start fun b hb => hb) hl hr).mono ?_
  rintro e w' ⟨v, F', μ', rfl, H, hv⟩
  rw [rep_v hv]
  exact ⟨rfl, H.os, H.tape, H.output, H.size, fun b hb => H.keep b hb fun ⟨k, f, o, hl, _⟩ => by simp [lv, lks] at hl⟩
end
end Go.Proofs.YtjjelnpehgoagaaGreatDoor
namespace Go.Proofs.YtjjelnpehgoagaaGreatDoor
open Go.RowKit
set_option linter.unusedVariables false
set_option maxRecDepth 100000
section
variable {P : Program}
def toVs : List AV → Option (List Value)
  | [] => some []
  | a :: as => match toV a, toVs as with
    | some v, some l => some (v :: l)
    | _, _ => none
theorem toVs_rep {w : World} {F : Nat → Prop} {μ : Places} {h : Heap} : ∀ {as : List AV} {l : List Value} (vs : List Value), toVs as = some l → vs.length = as.length → (∀ (i : Nat) v a, vs[i]? = some v → as[i]? = some a → ARep w F μ h v a) → vs = l
  | [], l, vs, hl, hs, _ => by
    simp [toVs] at hl
    subst hl
    exact List.eq_nil_of_length_eq_zero hs
  | a :: as, l, vs, hl, hs, hr => by
    match vs, hs with
    | v :: vs, hs =>
      unfold toVs at hl
      split at hl
      · rename_i v' l' h1 h2
        injection hl with hl
        subst hl
        rw [toV_rep h1 (hr 0 v a rfl rfl), toVs_rep vs h2 (by simpa using hs) fun i v a h3 h4 => hr (i + 1) v a h3 h4]
      · cases hl
theorem HInv.of_below {w w' : World} {F : Nat → Prop} {μ : Places} {gl : Glob F w} (H : HInv ⟨w, F, μ, lks [], gl⟩ F μ (lks []) w) (b : Below w.heap.size w w') : HInv ⟨w, F, μ, lks [], gl⟩ F μ (lks []) w' := by
  have no : ∀ {k f o}, lv (lks []) k f = some o → False := fun hl => by simp [lv, lks] at hl
  exact ⟨fun k f o hl => (no hl).elim, fun k f o k' f' o' b hl => (no hl).elim, fun k f o b hl => (no hl).elim, fun k f o b hl => (no hl).elim, fun x hx => Nat.lt_of_lt_of_le (H.fz x hx) b.size, fun b hb => .inl hb,
    ⟨fun x hx => b.block x (H.fz x hx), fun _ hb => hb, fun _ hb => hb, fun k f o' hk ho' => (no ho').elim⟩, b.os, b.tape, b.output, b.size, fun x hx _ => b.block x hx⟩
theorem fnc_of {f : FuncId} {as : List AV} {vs : List Value} {v : Value} (hc : callB P f = true) (hv : toVs as = some vs) (h : ∀ W, Calls P f vs.toArray W fun e w' => e = .returned v ∧ Below W.heap.size W w') : FnC P f [] as [] (constA v) := by
  refine ⟨hc, fun w F μ us gl H hs hr => ?_⟩
  have e : us.toList = vs := toVs_rep us.toList hv (by simpa using hs) fun i u a h1 h2 => hr i u a (by simpa using h1) h2
  have e2 : us = vs.toArray := by rw [← e]
  rw [e2]
  refine (h w).mono ?_
  rintro e w' ⟨rfl, hb⟩
  exact ⟨v, F, μ, rfl, H.of_below hb, constA_rep v⟩
theorem fnc_ofG {f : FuncId} {as : List AV} {vs : List Value} {v : Value} (hc : callB P f = true) (hv : toVs as = some vs) (h : ∀ (W : World) (F : Nat → Prop), Glob F W → Calls P f vs.toArray W fun e w' => e = .returned v ∧ Below W.heap.size W w') : FnC P f [] as [] (constA v) := by
  refine ⟨hc, fun w F μ us gl H hs hr => ?_⟩
  have e : us.toList = vs := toVs_rep us.toList hv (by simpa using hs) fun i u a h1 h2 => hr i u a (by simpa using h1) h2
  have e2 : us = vs.toArray := by rw [← e]
  rw [e2]
  refine (h w F gl).mono ?_
  rintro e w' ⟨rfl, hb⟩
  exact ⟨v, F, μ, rfl, H.of_below hb, constA_rep v⟩
end
end Go.Proofs.YtjjelnpehgoagaaGreatDoor
namespace Go.Proofs.YtjjelnpehgoagaaGreatDoor
open Go.RowKit
set_option linter.unusedVariables false
set_option maxRecDepth 100000

def atI {α : Type} (xs : List α) (i : Int) : Option α := if 0 ≤ i then xs[i.toNat]? else none
def chk {α : Type} (b : Prop) [Decidable b] (k : Option α) : Option α := if b then k else none
def w64 (x : Int) : Int := IntKind.i64.wrap x
theorem w64_in {x : Int} (h0 : -9223372036854775808 ≤ x) (h1 : x ≤ 9223372036854775807) : w64 x = x := ewrap h0 h1
def fuel : Nat := 1180591620717411303424
def loopN {S X : Type} (step : S → Option (S ⊕ X)) : Nat → S → Option X
  | 0, _ => none
  | n + 1, s => match step s with
    | none => none
    | some (.inl s') => loopN step n s'
    | some (.inr x) => some x
def loopM {S X : Type} (step : S → Option (S ⊕ X)) (s : S) : Option X := loopN step fuel s
def orE {V Z : Type} (x : V ⊕ Z) (f : V → Option Z) : Option Z := match x with
  | .inl v => f v
  | .inr z => some z
theorem orE_l {V Z : Type} {v : V} {f : V → Option Z} : orE (.inl v) f = f v := rfl
theorem bnd {α β : Type} {x : Option α} {f : α → Option β} {r : β} (h : x.bind f = some r) : ∃ y, x = some y ∧ f y = some r := by
  cases x with
  | none => cases h
  | some y => exact ⟨y, rfl, h⟩
theorem chk_e {α : Type} {b : Prop} [Decidable b] {k : Option α} {r : α} (h : chk b k = some r) : b ∧ k = some r := by
  unfold chk at h
  split at h
  · exact ⟨by assumption, h⟩
  · cases h
theorem chk_t {α : Type} {b : Prop} [Decidable b] {k : Option α} (h : b) : chk b k = k := if_pos h
theorem atI_e {α : Type} {xs : List α} {i : Int} {e : α} (h : atI xs i = some e) : i = (i.toNat : Int) ∧ xs[i.toNat]? = some e ∧ i.toNat < xs.length := by
  unfold atI at h
  split at h
  · exact ⟨by omega, h, (List.getElem?_eq_some_iff.1 h).1⟩
  · cases h
theorem atI_nat {α : Type} {xs : List α} {k : Nat} : atI xs (k : Int) = xs[k]? := by
  unfold atI
  rw [if_pos (by omega), Int.toNat_natCast]
theorem loopM_of {S X : Type} {step : S → Option (S ⊕ X)} (I : S → Prop) (m : S → Nat) (Post : X → Prop) (hs : ∀ s, I s → (∃ s', step s = some (.inl s') ∧ I s' ∧ m s' < m s) ∨ ∃ x, step s = some (.inr x) ∧ Post x) (s0 : S) (h0 : I s0) (hm : m s0 < 1180591620717411303424) :
    ∃ x, loopM step s0 = some x ∧ Post x := by
  have key : ∀ n s, I s → m s < n → ∃ x, loopN step n s = some x ∧ Post x := by
    intro n
    induction n with
    | zero => intro s _ h; omega
    | succ n ih =>
      intro s hI hlt
      rcases hs s hI with ⟨s', h1, h2, h3⟩ | ⟨x, h1, h2⟩
      · obtain ⟨x, h4, h5⟩ := ih s' h2 (by omega)
        exact ⟨x, by simp only [loopN, h1]; exact h4, h5⟩
      · exact ⟨x, by simp only [loopN, h1], h2⟩
  exact key fuel s0 h0 hm
theorem loopM_eq {S X : Type} {step : S → Option (S ⊕ X)} {x : X} (I : S → Prop) (m : S → Nat) (hs : ∀ s, I s → (∃ s', step s = some (.inl s') ∧ I s' ∧ m s' < m s) ∨ step s = some (.inr x)) {s0 : S} (h0 : I s0) (hm : m s0 < 1180591620717411303424) : loopM step s0 = some x := by
  obtain ⟨x', h1, rfl⟩ := loopM_of I m (fun x' => x' = x) (fun s hI => (hs s hI).imp id fun h => ⟨x, h, rfl⟩) s0 h0 hm
  exact h1

section
variable {P : Program} {T : Tab} {L N : Nat} {ops : Array Oper} {E : Env} {K : List (Nat × Cls) → AS → Prop} {i : Nat} {is : List Nat} {t : Nat → AV} {h h' : Heap} {d : Tmp} {dst : Option Tmp} {op : Op} {ty : TypeId} {pos : String} {aft : Array Edge} {g : Option (Nat × Bool)} {Q : AExit → AS → Prop} {σ : AS} {c x y : Code}

theorem aw_cut (J : AS) (h1 : AW L P N x (AThen (fun σ' => Weak L N σ' J) Q) σ) (h2 : AW L P N y Q J) : AW L P N (.seq x y) Q σ :=
  aw_seq (h1.mono fun e σ' q => by cases e <;> first | exact aw_weak q h2 | exact q)
theorem aw_cutE {V Y : Type} (v : V ⊕ Y) (J : V → AS) (h1 : AW L P N x (AThen (fun σ' => ∃ u, v = .inl u ∧ Weak L N σ' (J u)) Q) σ) (h2 : ∀ u, v = .inl u → AW L P N y Q (J u)) : AW L P N (.seq x y) Q σ :=
  aw_seq (h1.mono fun e σ' q => by
    cases e <;> first | exact q | skip
    obtain ⟨u, e, w⟩ := q
    exact aw_weak w (h2 u e))
def LoopQ {S X : Type} (L N : Nat) (St : S → AS) (y : S ⊕ X) (x : X) (Q : AExit → AS → Prop) : AExit → AS → Prop
  | .normal, σ' => ∃ s', y = .inl s' ∧ Weak L N σ' (St s')
  | e, σ' => ∃ x', y = .inr x' ∧ (x' = x → Q e σ')
theorem aw_loopM {S X : Type} {step : S → Option (S ⊕ X)} (St : S → AS) {s0 : S} {x : X} (hx : loopM step s0 = some x) (h0 : Weak L N σ (St s0)) (round : ∀ s y, step s = some y → AW L P N c (LoopQ L N St y x Q) (St s)) : AW L P N (.loop c) Q σ := by
  refine aw_loop (ι := {p : Nat × S // loopN step p.1 p.2 = some x}) (fun p => St p.1.2) (fun p => p.1.1) ⟨(fuel, s0), hx⟩ h0 fun ⟨⟨n, s⟩, hn⟩ => ?_
  cases n with
  | zero => simp [loopN] at hn
  | succ n =>
    cases hst : step s with
    | none => simp [loopN, hst] at hn
    | some y =>
      refine (round s y hst).mono fun e σ' q => ?_
      simp only [loopN, hst] at hn
      cases e with
      | normal =>
        obtain ⟨s', rfl, hw⟩ := q
        exact ⟨⟨(n, s'), hn⟩, Nat.lt_succ_self n, hw⟩
      | exit id => obtain ⟨x', rfl, k⟩ := q; exact k (by simpa using hn)
      | goto l => obtain ⟨x', rfl, k⟩ := q; exact k (by simpa using hn)
      | ret => obtain ⟨x', rfl, k⟩ := q; exact k (by simpa using hn)
theorem loop_n {S X : Type} {St : S → AS} {y : S ⊕ X} {x : X} {σ' : AS} (h : ∃ s', y = .inl s' ∧ Weak L N σ' (St s')) : LoopQ L N St y x Q .normal σ' := h
theorem loop_x {S X : Type} {St : S → AS} {y : S ⊕ X} {x : X} {σ' : AS} {j : Nat} (h : ∃ x', y = .inr x' ∧ (x' = x → Q (.exit j) σ')) : LoopQ L N St y x Q (.exit j) σ' := h
theorem loop_r {S X : Type} {St : S → AS} {y : S ⊕ X} {x : X} {σ' : AS} (h : ∃ x', y = .inr x' ∧ (x' = x → Q .ret σ')) : LoopQ L N St y x Q .ret σ' := h
theorem aw_if {α : Type} {o : Operand} {p : Prop} [Decidable p] {a b r : α} (h : (if p then a else b) = r) (hb : evA N σ o = .d (.v (.bool (decide p)))) (ht : p → a = r → AW L P N x Q σ) (hf : ¬ p → b = r → AW L P N y Q σ) : AW L P N (.cond o x y) Q σ :=
  aw_condP p hb (fun hp => ht hp (by rwa [if_pos hp] at h)) (fun hp => hf hp (by rwa [if_neg hp] at h))
theorem aw_ifB {α : Type} {o : Operand} {p : Bool} {a b r : α} (h : (if p = true then a else b) = r) (hb : evA N σ o = .d (.v (.bool p))) (ht : p = true → a = r → AW L P N x Q σ) (hf : ¬ p = true → b = r → AW L P N y Q σ) : AW L P N (.cond o x y) Q σ :=
  aw_cond p hb (fun hp => ht hp (by rwa [if_pos hp] at h)) (fun hp => hf (by simp [hp]) (by rwa [if_neg (by simp [hp])] at h))
theorem rt_if {α : Type} {u : Nat} {p : Prop} [Decidable p] {a b r : α} (hh : (if p then a else b) = r) (hb : t u = .d (.v (.bool (decide p)))) (ht : p → a = r → RT P N ops is K ⟨updA t u (.d (.v (.bool true))), h⟩) (hf : ¬ p → b = r → RT P N ops is K ⟨updA t u (.d (.v (.bool false))), h⟩) : RT P N ops is K ⟨t, h⟩ :=
  rt_boolP hb (fun hp => ht hp (by rwa [if_pos hp] at hh)) (fun hp => hf hp (by rwa [if_neg hp] at hh))
theorem rt_ifB {α : Type} {u : Nat} {p : Bool} {a b r : α} (hh : (if p = true then a else b) = r) (hb : t u = .d (.v (.bool p))) (ht : p = true → a = r → RT P N ops is K ⟨updA t u (.d (.v (.bool true))), h⟩) (hf : ¬ p = true → b = r → RT P N ops is K ⟨updA t u (.d (.v (.bool false))), h⟩) : RT P N ops is K ⟨t, h⟩ :=
  rt_bool hb (fun hp => ht hp (by rwa [if_pos hp] at hh)) (fun hp => hf (by simp [hp]) (by rwa [if_neg (by simp [hp])] at hh))
theorem w0 {o : Op} : Want N ops ⟨dst, o, ty, pos, aft, none⟩ σ := .inl rfl
theorem w1 {o : Op} {j u : Nat} {b : Bool} (hj : (ops[j]?).bind (·.dst) = some u) (ht : Nat.blt u N = true) (hb : t u = .d (.v (.bool b))) : Want N ops ⟨dst, o, ty, pos, aft, some (j, b)⟩ ⟨t, h⟩ := want_some rfl hj ht hb

theorem wk_of {t' : Nat → AV} {ss : List Slot} (ks : List Nat) (B : Nat) (hnd : ks.Nodup := by decide) (hlt : ∀ k ∈ ks, k < B := by decide) (h3 : (List.range L).all (fun p => nameL ks B p == p) = true := by decide)
    (hB : Abv h B := by repeat (first | exact abv_nil _ | exact abv_lks rfl | refine abv_upd ?_ rfl)) (wt : WT (nameL ks B) t t') (wh : AtK (nameL ks B) h ks ss) : Weak L N ⟨t, h⟩ ⟨t', lks ss⟩ := by
  rintro E a w ⟨F, μ, A⟩
  have R := wh.ren_ (μ := μ) hB
  refine ⟨F, _, A.H.restrict (nameL_inj hnd hlt) R (fun p hp => ?_), A.df, A.sz, fun d hd => ?_, A.lim⟩
  · rcases Nat.lt_or_ge p L with h1 | h1
    · have := List.all_eq_true.1 h3 p (by simpa using h1)
      simpa using this
    · exact absurd (A.lim p h1) hp
  · have hr := A.tm d hd
    rcases wt.spec d with e | e
    · have hr : ARep w F μ h (a.tmps.getD d undef) (t d) := hr
      rw [e] at hr
      exact hr.unren R (t' d) rfl
    · show ARep w F _ _ _ (t' d)
      rw [e]; exact .dead _
def RA (L : Nat) (P : Program) (N : Nat) (ops : Array Oper) (is : List Nat) (Q : AExit → AS → Prop) (σ : AS) : Prop := ∀ E a w, Abs L E N σ a w → wpOps P ops (absQ L E N Q) is a w
theorem aw_regionA {id : Nat} {is : List Nat} (his : List.range ops.size = is) (h : RA L P N ops is Q σ) : AW L P N (.region id ops false) Q σ := fun E a w A => wp_region (by rw [his]; exact h E a w A)
theorem ra_nil (h : Q .normal σ) : RA L P N ops [] Q σ := fun E a w A => by
  show wpOps P ops (absQ L E N Q) [] a w
  unfold wpOps
  exact ⟨σ, A, h⟩
theorem ra_cons {o : Oper} {cl : Cls} {σ1 : AS} (ho : ops[i]? = some o) (hs : AStep P N ops o σ cl σ1) (k : RA L P N ops is Q σ1) : RA L P N ops (i :: is) Q σ := fun E a w A => by
  simp only [wpOps, ho]
  have := hs.sound A (K := wpOps P ops (absQ L E N Q) is) (Q := absQ L E N Q) (fun a' w' A' => k E a' w' A')
  split
  · rename_i hw; rw [if_pos hw] at this; exact .inl this
  · rename_i hw; rw [if_neg hw] at this; exact this
theorem ra_one (h : RT P N ops [i] (fun _ σ' => RA L P N ops is Q σ') σ) : RA L P N ops (i :: is) Q σ := by
  obtain ⟨l, σ', e, C, hk⟩ := h
  cases C with
  | nil => simp at e
  | cons j c l o _ σ1 _ ho hs hr =>
    simp only [List.map_cons, List.cons.injEq] at e
    obtain ⟨rfl, e⟩ := e
    have : l = [] := List.map_eq_nil_iff.1 e
    subst this
    cases hr
    exact ra_cons ho hs hk
theorem rp {r : AV} (ho : ops[i]? = some ⟨some d, op, ty, pos, aft, g⟩) (hw : Want N ops ⟨some d, op, ty, pos, aft, g⟩ ⟨t, h⟩) (hd : Nat.blt d N = true) (hp : Pure1 P N ⟨some d, op, ty, pos, aft, g⟩ ⟨t, h⟩ r) (k : RA L P N ops is Q ⟨updA t d r, h⟩) : RA L P N ops (i :: is) Q ⟨t, h⟩ := ra_one (rt_p ho hw hd hp (rt_nil k))
theorem rl {r : AV} (ho : ops[i]? = some ⟨some d, op, ty, pos, aft, g⟩) (hw : Want N ops ⟨some d, op, ty, pos, aft, g⟩ ⟨t, h⟩) (hd : Nat.blt d N = true) (hp : Light1 P N ⟨some d, op, ty, pos, aft, g⟩ ⟨t, h⟩ r) (k : RA L P N ops is Q ⟨updA t d r, h⟩) : RA L P N ops (i :: is) Q ⟨t, h⟩ := ra_one (rt_l ho hw hd hp (rt_nil k))
theorem rs {r : AV} (ho : ops[i]? = some ⟨some d, op, ty, pos, aft, g⟩) (hw : Want N ops ⟨some d, op, ty, pos, aft, g⟩ ⟨t, h⟩) (hd : Nat.blt d N = true) (hp : Heavy1 P N ⟨some d, op, ty, pos, aft, g⟩ ⟨t, h⟩ r h' ∧ ∀ k, h k ≠ .no → h' k = h k) (k : RA L P N ops is Q ⟨updA t d r, h'⟩) : RA L P N ops (i :: is) Q ⟨t, h⟩ := ra_one (rt_s ho hw hd hp (rt_nil k))
theorem rw1 {r : AV} (ho : ops[i]? = some ⟨some d, op, ty, pos, aft, g⟩) (hw : Want N ops ⟨some d, op, ty, pos, aft, g⟩ ⟨t, h⟩) (hd : Nat.blt d N = true) (hp : Heavy1 P N ⟨some d, op, ty, pos, aft, g⟩ ⟨t, h⟩ r h') (k : RA L P N ops is Q ⟨updA t d r, h'⟩) : RA L P N ops (i :: is) Q ⟨t, h⟩ := ra_one (rt_w ho hw hd hp (rt_nil k))
theorem rw0 {r : AV} (ho : ops[i]? = some ⟨none, op, ty, pos, aft, g⟩) (hw : Want N ops ⟨none, op, ty, pos, aft, g⟩ ⟨t, h⟩) (hp : Heavy1 P N ⟨none, op, ty, pos, aft, g⟩ ⟨t, h⟩ r h') (k : RA L P N ops is Q ⟨t, h'⟩) : RA L P N ops (i :: is) Q ⟨t, h⟩ := ra_one (rt_w0 ho hw hp (rt_nil k))
theorem rk {j u : Nat} {want : Bool} (ho : ops[i]? = some ⟨some d, op, ty, pos, aft, some (j, want)⟩) (hj : (ops[j]?).bind (·.dst) = some u) (hu : Nat.blt u N = true) (hb : t u = .d (.v (.bool !want)) ∨ t u = .tup []) (hd : Nat.blt d N = true) (k : RA L P N ops is Q ⟨updA t d (.tup []), h⟩) : RA L P N ops (i :: is) Q ⟨t, h⟩ := ra_one (rt_skip ho hj hu hb hd (rt_nil k))
theorem ra_bool {u : Nat} {b : Bool} (hb : t u = .d (.v (.bool b))) (ht : b = true → RA L P N ops is Q ⟨updA t u (.d (.v (.bool true))), h⟩) (hf : b = false → RA L P N ops is Q ⟨updA t u (.d (.v (.bool false))), h⟩) : RA L P N ops is Q ⟨t, h⟩ := by
  have e : ∀ x, t u = x → updA t u x = t := fun x hx => by
    funext t'
    by_cases e : t' = u
    · subst e; rw [updA_same, hx]
    · rw [updA_ne _ _ e]
  cases b with
  | true => have := ht rfl; rwa [e _ hb] at this
  | false => have := hf rfl; rwa [e _ hb] at this
theorem ra_if {α : Type} {u : Nat} {p : Prop} [Decidable p] {a b r : α} (hh : (if p then a else b) = r) (hb : t u = .d (.v (.bool (decide p)))) (ht : p → a = r → RA L P N ops is Q ⟨updA t u (.d (.v (.bool true))), h⟩) (hf : ¬ p → b = r → RA L P N ops is Q ⟨updA t u (.d (.v (.bool false))), h⟩) : RA L P N ops is Q ⟨t, h⟩ :=
  ra_bool hb (fun hp => have hp := of_decide_eq_true hp; ht hp (by rwa [if_pos hp] at hh)) (fun hp => have hp := of_decide_eq_false hp; hf hp (by rwa [if_neg hp] at hh))
theorem ra_ifB {α : Type} {u : Nat} {p : Bool} {a b r : α} (hh : (if p = true then a else b) = r) (hb : t u = .d (.v (.bool p))) (ht : p = true → a = r → RA L P N ops is Q ⟨updA t u (.d (.v (.bool true))), h⟩) (hf : ¬ p = true → b = r → RA L P N ops is Q ⟨updA t u (.d (.v (.bool false))), h⟩) : RA L P N ops is Q ⟨t, h⟩ :=
  ra_bool hb (fun hp => ht hp (by rwa [if_pos hp] at hh)) (fun hp => hf (by simp [hp]) (by rwa [if_neg (by simp [hp])] at hh))
end
end Go.Proofs.YtjjelnpehgoagaaGreatDoor
namespace Go.Proofs.YtjjelnpehgoagaaGreatDoor
open Go.RowKit
set_option linter.unusedVariables false
set_option maxRecDepth 100000

mutual
/-- handles to the object at k, seen as data from here on -/
inductive FzR (k : Nat) (X : Option (List (List DV))) (D : Option (List DV)) : AV → AV → Prop
  | d (x : DV) : FzR k X D (.d x) (.d x)
  | own {es : List (List DV)} {n : Nat} (hX : X = some es) (hn : n = es.length) : FzR k X D (.own k 0 n) (.d (.sl es))
  | ptr {ds out : List DV} {j : Nat} (hD : D = some ds) (hj : Drp j ds out) : FzR k X D (.ptr k 0 1 0 j) (.ref out)
  | own' {k' f n : Nat} : FzR k X D (.own k' f n) (.own k' f n)
  | ptr' {k' f n i j : Nat} : FzR k X D (.ptr k' f n i j) (.ptr k' f n i j)
  | ref (cs : List DV) : FzR k X D (.ref cs) (.ref cs)
  | agg {cs ds : List AV} (h : FzRL k X D cs ds) : FzR k X D (.agg cs) (.agg ds)
  | tup {cs ds : List AV} (h : FzRL k X D cs ds) : FzR k X D (.tup cs) (.tup ds)
  | fn {g : FuncId} {cs ds : List AV} (h : FzRL k X D cs ds) : FzR k X D (.fn g cs) (.fn g ds)
  | dead (a : AV) : FzR k X D a .dead
inductive FzRL (k : Nat) (X : Option (List (List DV))) (D : Option (List DV)) : List AV → List AV → Prop
  | nil : FzRL k X D [] []
  | cons {c d : AV} {cs ds : List AV} (h : FzR k X D c d) (q : FzRL k X D cs ds) : FzRL k X D (c :: cs) (d :: ds)
end
theorem FzRL.len_ {k : Nat} {X : Option (List (List DV))} {D : Option (List DV)} : ∀ {cs ds : List AV}, FzRL k X D cs ds → cs.length = ds.length
  | _, _, .nil => rfl
  | _, _, .cons _ q => by simp [FzRL.len_ q]
theorem FzRL.get_ {k : Nat} {X : Option (List (List DV))} {D : Option (List DV)} : ∀ {cs ds : List AV}, FzRL k X D cs ds → ∀ (i : Nat) c d, cs[i]? = some c → ds[i]? = some d → FzR k X D c d
  | _, _, .nil, i, c, d, h, _ => by simp at h
  | _, _, .cons h q, 0, c, d, h1, h2 => by simp at h1 h2; subst h1 h2; exact h
  | _, _, .cons h q, i + 1, c, d, h1, h2 => by simp at h1 h2; exact FzRL.get_ q i c d h1 h2
section
variable {P : Program} {L N : Nat} {E : Env} {t : Nat → AV} {h h' : Heap} {k : Nat} {X : Option (List (List DV))} {D : Option (List DV)}

structure FzH (k : Nat) (X : Option (List (List DV))) (D : Option (List DV)) (h h' : Heap) : Prop where
  at_ : ∃ o, h k = .live [o] ∧ (∀ es, X = some es → o.cs = .data es) ∧ ∀ ds, D = some ds → o.cs = .av [ds.map .d]
  dead : h' k = .dead
  oth : ∀ p, p ≠ k → h' p = h p ∨ ∃ ty sz cs ds, h p = .live [⟨ty, sz, .av [cs]⟩] ∧ h' p = .live [⟨ty, sz, .av [ds]⟩] ∧ FzRL k X D cs ds
theorem fz_evo {F : Nat → Prop} {μ : Places} {w : World} (Z : FzH k X D h h') : Evo w F μ h w (fun b => F b ∨ μ k 0 = some b) μ h' := by
  refine ⟨fun _ _ => rfl, fun b hb => .inl hb, fun p hp => ?_, fun p f o' hp ho' => ?_⟩
  · by_cases e : p = k
    · subst e; rw [Z.dead]; simp
    · rcases Z.oth p e with e1 | ⟨ty, sz, cs, ds, e1, e2, _⟩
      · rwa [e1]
      · rw [e2]; simp
  · by_cases e : p = k
    · subst e; simp [lv, Z.dead] at ho'
    · rcases Z.oth p e with e1 | ⟨ty, sz, cs, ds, e1, e2, _⟩
      · have : lv h p f = some o' := by unfold lv at ho' ⊢; rwa [← e1]
        exact ⟨o', this, .inr ⟨rfl, rfl, rfl, fun b cur _ hc => ⟨cur, hc, rfl⟩⟩⟩
      · unfold lv at ho' ⊢
        rw [e2] at ho'
        rw [e1]
        cases f with
        | zero =>
          simp only [List.getElem?_cons_zero, Option.some.injEq] at ho'
          subst ho'
          exact ⟨_, rfl, .inr ⟨rfl, rfl, rfl, fun b cur _ hc => ⟨cur, hc, rfl⟩⟩⟩
        | succ f => simp at ho'
theorem fz_rep {F : Nat → Prop} {μ : Places} {w : World} (H : HInv E F μ h w) (Z : FzH k X D h h') {v : Value} {a : AV} (r : ARep w F μ h v a) : ∀ {a' : AV}, FzR k X D a a' → ARep w (fun b => F b ∨ μ k 0 = some b) μ h' v a' := by
  have V := fz_evo (F := F) (μ := μ) (w := w) Z
  obtain ⟨o, hk, hX0, hD0⟩ := Z.at_
  have hlo : lv h k 0 = some o := by unfold lv; rw [hk]; rfl
  induction r with
  | d v x hd => intro a' z; cases z with | d => exact (ARep.d v x hd).evo V | dead => exact .dead _
  | agg vs cs hs hr ih =>
    intro a' z
    cases z with
    | agg q =>
      refine .agg vs _ (hs.trans q.len_) fun i v d hv hd => ?_
      have hlt : i < cs.length := by have := (List.getElem?_eq_some_iff.1 hd).1; rw [q.len_]; exact this
      exact ih i v _ hv (List.getElem?_eq_getElem hlt) (q.get_ i _ d (List.getElem?_eq_getElem hlt) hd)
    | dead => exact .dead _
  | tup vs cs hs hr ih =>
    intro a' z
    cases z with
    | tup q =>
      refine .tup vs _ (hs.trans q.len_) fun i v d hv hd => ?_
      have hlt : i < cs.length := by have := (List.getElem?_eq_some_iff.1 hd).1; rw [q.len_]; exact this
      exact ih i v _ hv (List.getElem?_eq_getElem hlt) (q.get_ i _ d (List.getElem?_eq_getElem hlt) hd)
    | dead => exact .dead _
  | ref b off cs g hF hg hr => intro a' z; cases z with | ref => exact (ARep.ref b off cs g hF hg hr).evo V | dead => exact .dead _
  | ptr v k' f n i j h1 hb hv =>
    intro a' z
    cases z with
    | ptr' => exact (ARep.ptr v k' f n i j h1 hb hv).evo V
    | dead => exact .dead _
    | ptr hD hj =>
      rename_i ds out
      have hc := hD0 ds hD
      obtain ⟨b, cur, hm, hw, hob⟩ : ∃ b cur, μ k 0 = some b ∧ w.heap[b]? = some (.cells cur o.ty (0, 0)) ∧ ∀ (q : Nat) (x : DV), ds[q]? = some x → ∃ u, cur[q]? = some u ∧ ARep w F μ h u (.d x) := by
        rcases H.ob k 0 o hlo with ⟨_, q⟩ | ⟨b, cur, q1, q2, q3⟩
        · rw [hc] at q; simp [Cells.len] at q
        · refine ⟨b, cur, q1, q2, fun q x hx => ?_⟩
          obtain ⟨u, hu, hr⟩ := (q3 0 (ds.map .d) (by rw [hc]; rfl)).2 q (.d x) (map_at hx)
          exact ⟨u, by simpa using hu, hr⟩
      obtain ⟨b', hm', rfl⟩ := (hv o hlo).2 (by rw [hc]; rfl)
      rw [hm] at hm'
      injection hm' with hm'
      subst hm'
      obtain ⟨rfl, hjl⟩ := hj.spec
      have hat : ∀ (q : Nat) x, (ds.drop j)[q]? = some x → ∃ u, cur[j + q]? = some u ∧ ARep w F μ h u (.d x) := fun q x hx => hob (j + q) x (by rwa [List.getElem?_drop] at hx)
      refine .ref b _ _ (fun q => cur.getD (j + q) undef) (.inr hm) (fun q x hx => ?_) (fun q x hx => ?_)
      · obtain ⟨u, hu, _⟩ := hat q x hx
        rw [cell_of_row w b _ cur o.ty (0, 0) hw]
        simp [hu]
      · obtain ⟨u, hu, hr⟩ := hat q x hx
        have e1 : cur.getD (j + q) undef = u := by simp [hu]
        rw [e1]
        cases hr with | d _ _ hd => exact hd.mono (fun _ _ => rfl) (fun _ => .inl)
  | own v k' f n h1 hb hv =>
    intro a' z
    cases z with
    | own' => exact (ARep.own v k' f n h1 hb hv).evo V
    | dead => exact .dead _
    | own hX hn =>
      rename_i es
      have hc := hX0 es hX
      have hlen : o.cs.len = es.length := by rw [hc]; rfl
      rcases (hv o hlo).2 (by rw [hlen, hn]) with ⟨q1, q2, q3⟩ | ⟨b, c, cur, q1, q2, q3, q4, q5, q6⟩
      · subst q3
        have : es = [] := List.eq_nil_of_length_eq_zero (by omega)
        subst this
        exact .d _ _ .nil
      · subst q2
        rcases H.ob k 0 o hlo with ⟨g1, _⟩ | ⟨b', cur', g1, g2, g3⟩
        · rw [q1] at g1; cases g1
        · rw [q1] at g1
          injection g1 with g1
          subst g1
          rw [q3] at g2
          injection g2 with g2
          injection g2 with g2
          subst g2
          have cellAt : ∀ (i : Nat) (e : List DV) (j : Nat) (x : DV), es[i]? = some e → e[j]? = some x → ∃ u, cur[i * o.sz + j]? = some u ∧ ARep w F μ h u (.d x) := fun i e j x he hx =>
            (g3 i (e.map .d) (by rw [hc]; simp [Cells.get, he])).2 j (.d x) (by simp [hx])
          refine .d _ _ ?_
          rw [hn]
          refine .sl b 0 c o.sz es (fun i j => cur.getD (i * o.sz + j) undef) (.inr q1) (by omega) q6 (fun i e he => ?_) (fun i e j x he hx => ?_) (fun i e j x he hx => ?_)
          · have := (g3 i (e.map .d) (by rw [hc]; simp [Cells.get, he])).1
            simpa using this
          · obtain ⟨u, hu, _⟩ := cellAt i e j x he hx
            rw [Nat.zero_add, cell_of_row w b _ cur o.ty (0, 0) q3, hu]
            simp [hu]
          · obtain ⟨u, hu, hr⟩ := cellAt i e j x he hx
            have e1 : cur.getD (i * o.sz + j) undef = u := by simp [hu]
            rw [e1]
            cases hr with | d _ _ hd => exact hd.mono (fun _ _ => rfl) (fun _ => .inl)
  | fn g vs cs hs hr ih =>
    intro a' z
    cases z with
    | fn q =>
      refine .fn g vs _ (hs.trans q.len_) fun i v d hv hd => ?_
      have hlt : i < cs.length := by have := (List.getElem?_eq_some_iff.1 hd).1; rw [q.len_]; exact this
      exact ih i v _ hv (List.getElem?_eq_getElem hlt) (q.get_ i _ d (List.getElem?_eq_getElem hlt) hd)
    | dead => exact .dead _
  | dead v => intro a' z; cases z <;> exact .dead _
theorem fz_inv {F : Nat → Prop} {μ : Places} {w : World} (H : HInv E F μ h w) (Z : FzH k X D h h') : HInv E (fun b => F b ∨ μ k 0 = some b) μ h' w := by
  have V := fz_evo (F := F) (μ := μ) (w := w) Z
  obtain ⟨o, hk, hX0, hD0⟩ := Z.at_
  have hlo : lv h k 0 = some o := by unfold lv; rw [hk]; rfl
  have back : ∀ {p f o'}, lv h' p f = some o' → p ≠ k ∧ ∃ o1, lv h p f = some o1 := fun {p f o'} ho' => by
    have hpk : p ≠ k := fun e => by subst e; simp [lv, Z.dead] at ho'
    refine ⟨hpk, ?_⟩
    rcases Z.oth p hpk with e1 | ⟨ty, sz, cs, ds, e1, e2, _⟩
    · exact ⟨o', by unfold lv at ho' ⊢; rwa [← e1]⟩
    · unfold lv at ho' ⊢
      rw [e2] at ho'; rw [e1]
      cases f with
      | zero => exact ⟨_, rfl⟩
      | succ f => simp at ho'
  refine ⟨fun p f o' ho' => ?_, fun p f o1 p' f' o2 b l1 l2 => ?_, fun p f o' b ho' hm hF => ?_, fun p f o' b ho' hm => ?_, fun b hb => ?_, fun b hb => ?_, ?_, H.os, H.tape, H.output, H.size, H.keep⟩
  · obtain ⟨hpk, _⟩ := back ho'
    rcases Z.oth p hpk with e1 | ⟨ty, sz, cs, ds, e1, e2, q⟩
    · have : lv h p f = some o' := by unfold lv at ho' ⊢; rwa [← e1]
      exact (H.ob p f o' this).evo V fun _ _ => rfl
    · unfold lv at ho'
      rw [e2] at ho'
      cases f with
      | succ f => simp at ho'
      | zero =>
        simp only [List.getElem?_cons_zero, Option.some.injEq] at ho'
        subst ho'
        rcases H.ob p 0 ⟨ty, sz, .av [cs]⟩ (by unfold lv; rw [e1]; rfl) with ⟨_, g⟩ | ⟨b, cur, g1, g2, g3⟩
        · simp [Cells.len] at g
        · refine .inr ⟨b, cur, g1, g2, fun i cells hi => ?_⟩
          cases i with
          | succ i => simp [Cells.get] at hi
          | zero =>
            simp only [Cells.get, List.getElem?_cons_zero, Option.some.injEq] at hi
            subst hi
            obtain ⟨g4, g5⟩ := g3 0 cs rfl
            refine ⟨q.len_.symm.trans g4, fun j c hj => ?_⟩
            have hlt : j < cs.length := by have := (List.getElem?_eq_some_iff.1 hj).1; rw [q.len_]; exact this
            obtain ⟨u, hu, hr⟩ := g5 j _ (List.getElem?_eq_getElem hlt)
            exact ⟨u, hu, fz_rep H Z hr (q.get_ j _ c (List.getElem?_eq_getElem hlt) hj)⟩
  · obtain ⟨_, _, x1⟩ := back l1
    obtain ⟨_, _, x2⟩ := back l2
    exact H.inj _ _ _ _ _ _ b x1 x2
  · obtain ⟨hpk, o1, x1⟩ := back ho'
    rcases hF with hF | hF
    · exact H.sep _ _ _ b x1 hm hF
    · exact hpk (H.inj _ _ _ _ _ _ b x1 hlo hm hF).1
  · obtain ⟨_, o1, x1⟩ := back ho'
    exact H.src _ _ _ b x1 hm
  · rcases hb with hb | hb
    · exact H.fz b hb
    · exact H.lt hlo hb
  · rcases hb with hb | hb
    · exact H.fsrc b hb
    · rcases H.src _ _ _ b hlo hb with h1 | h1
      · exact .inr (.inl h1)
      · exact .inr (.inr h1)
  · exact H.ev.trans V
inductive FzT (k : Nat) (X : Option (List (List DV))) (D : Option (List DV)) (s : Nat → AV) : (Nat → AV) → Prop
  | nil : FzT k X D s fun _ => .dead
  | upd {t : Nat → AV} {d : Nat} {r r' : AV} (h : s d = r') (hr : FzR k X D r' r) (q : FzT k X D s t) : FzT k X D s (updA t d r)
theorem FzT.spec {s t : Nat → AV} (z : FzT k X D s t) (d : Nat) : FzR k X D (s d) (t d) := by
  induction z with
  | nil => exact .dead _
  | upd h hr q ih =>
    rename_i t d' r r'
    by_cases e : d = d'
    · subst e; rw [updA_same, h]; exact hr
    · rw [updA_ne _ _ e]; exact ih
theorem weak_fz {t' : Nat → AV} (Z : FzH k X D h h') (zt : FzT k X D t t') : Weak L N ⟨t, h⟩ ⟨t', h'⟩ := fun E a w ⟨F, μ, A⟩ =>
  ⟨_, _, fz_inv A.H Z, A.df, A.sz, fun d hd => fz_rep A.H Z (A.tm d hd) (zt.spec d), A.lim⟩
inductive FzL (k : Nat) (X : Option (List (List DV))) (D : Option (List DV)) (h : Heap) : Heap → Prop
  | nil : FzL k X D h (upd h k .dead)
  | box {h' : Heap} {kb : Nat} {ty : TypeId} {sz : Nat} {cs ds : List AV} (hb : h kb = .live [⟨ty, sz, .av [cs]⟩]) (hne : Nat.beq kb k = false) (hr : FzRL k X D cs ds) (q : FzL k X D h h') : FzL k X D h (upd h' kb (.live [⟨ty, sz, .av [ds]⟩]))
theorem FzL.spec (z : FzL k X D h h') : h' k = .dead ∧ ∀ p, p ≠ k → h' p = h p ∨ ∃ ty sz cs ds, h p = .live [⟨ty, sz, .av [cs]⟩] ∧ h' p = .live [⟨ty, sz, .av [ds]⟩] ∧ FzRL k X D cs ds := by
  induction z with
  | nil => exact ⟨upd_same _ _ _, fun p hp => .inl (upd_ne _ _ hp)⟩
  | box hb hne hr q ih =>
    rename_i kb ty sz cs ds
    have hne' : kb ≠ k := fun e => by subst e; simp at hne
    refine ⟨by rw [upd_ne _ _ (Ne.symm hne')]; exact ih.1, fun p hp => ?_⟩
    by_cases e : p = kb
    · subst e; exact .inr ⟨ty, sz, cs, ds, hb, upd_same _ _ _, hr⟩
    · rw [upd_ne _ _ e]; exact ih.2 p hp
theorem fz_rows {ty : TypeId} {sz : Nat} {es : List (List DV)} (hk : h k = .live [⟨ty, sz, .data es⟩]) (z : FzL k (some es) none h h') : FzH k (some es) none h h' :=
  ⟨⟨_, hk, fun es' e => by injection e with e; subst e; rfl, fun ds e => by cases e⟩, z.spec.1, z.spec.2⟩
theorem fz_box {ty : TypeId} {sz : Nat} {cells : List AV} {ds : List DV} (hk : h k = .live [⟨ty, sz, .av [cells]⟩]) (hd : AllD cells ds) (z : FzL k none (some ds) h h') : FzH k none (some ds) h h' :=
  ⟨⟨_, hk, fun es' e => by (cases e), fun ds' e => by injection e with e; subst e; simp only; rw [hd.eq_]⟩, z.spec.1, z.spec.2⟩
end
end Go.Proofs.YtjjelnpehgoagaaGreatDoor
namespace Go.Proofs.YtjjelnpehgoagaaGreatDoor
open Go.RowKit
set_option linter.unusedVariables false
set_option maxRecDepth 100000
def cI (x : Int) : List DV := [.v (.int .i64 x)]
def cU8 (x : Int) : List DV := [.v (.int .u8 x)]
def cS (x : ByteArray) : List DV := [.v (.string x)]
def cL {α : Type} (c : α → List DV) (xs : List α) : List DV := [.sl (xs.map c)]
theorem lv_of {h : Heap} {k : Nat} {o : AObj} (hk : h k = .live [o]) : lv h k 0 = some o := by unfold lv; rw [hk]; rfl
theorem rows_len {α : Type} {c : α → List DV} {es : List α} : (Cells.data (es.map c)).len = es.length := by simp [Cells.len]
theorem rows_get {α : Type} {c : α → List DV} {es : List α} {m : Nat} {e : α} (he : es[m]? = some e) : (Cells.data (es.map c)).get m = some ((c e).map .d) := by simp [Cells.get, he]
theorem sf_nil : ∀ s ∈ ([] : List Slot), SFlat s := fun s hs => by cases hs
theorem sf_cons {a : Slot} {l : List Slot} (h : SFlat a) (k : ∀ s ∈ l, SFlat s) : ∀ s ∈ a :: l, SFlat s := fun s hs => by
  rcases List.mem_cons.1 hs with rfl | hs
  · exact h
  · exact k s hs
theorem sflat_rows {α : Type} {t : TypeId} {z : Nat} {c : α → List DV} {es : List α} (hc : ∀ a, (c a).all DV.flat = true) : SFlat (.live [⟨t, z, .data (es.map c)⟩]) := by
  intro o ho
  simp only [List.mem_singleton] at ho
  subst ho
  intro e he x hx
  obtain ⟨a, _, rfl⟩ := List.mem_map.1 he
  exact List.all_eq_true.1 (hc a) x hx
theorem nestC_flat (kf i : Nat) : ∀ l : List DV, AV.flatL (nestC kf i l) = true
  | [] => rfl
  | .v x :: l => by simp [nestC, AV.flatL, AV.flat, DV.flat, nestC_flat kf i l]
  | .sl es :: l => by simp [nestC, AV.flatL, AV.flat, nestC_flat kf i l]
theorem nestC_len (kf i : Nat) : ∀ l : List DV, (nestC kf i l).length = l.length
  | [] => rfl
  | .v x :: l => by simp [nestC, nestC_len kf i l]
  | .sl es :: l => by simp [nestC, nestC_len kf i l]
def nestA (kf i : Nat) : DV → AV
  | .v x => .d (.v x)
  | .sl es => .own kf i es.length
theorem nestC_get (kf i : Nat) : ∀ (l : List DV) (j : Nat), (nestC kf i l)[j]? = (l[j]?).map (nestA kf i)
  | [], j => by simp [nestC]
  | .v x :: l, 0 => by simp [nestC, nestA]
  | .sl es :: l, 0 => by simp [nestC, nestA]
  | .v x :: l, j + 1 => by simp [nestC, nestC_get kf i l j]
  | .sl es :: l, j + 1 => by simp [nestC, nestC_get kf i l j]
theorem slCnt0 : ∀ {l : List DV} {j : Nat} {es : List (List DV)}, slCnt l = 0 → l[j]? = some (.sl es) → False
  | [], j, es, _, h => by simp at h
  | .v x :: l, 0, es, _, h => by simp at h
  | .v x :: l, j + 1, es, h0, h => slCnt0 (l := l) (by simpa [slCnt] using h0) (by simpa using h)
  | .sl x :: l, j, es, h0, h => by simp [slCnt] at h0
theorem slOf_of : ∀ {l : List DV} {j : Nat} {es : List (List DV)}, slCnt l = 1 → l[j]? = some (.sl es) → slOf l = es
  | [], j, es, _, h => by simp at h
  | .v x :: l, 0, es, _, h => by simp at h
  | .v x :: l, j + 1, es, h0, h => by simpa [slOf] using slOf_of (l := l) (by simpa [slCnt] using h0) (by simpa using h)
  | .sl x :: l, 0, es, _, h => by simp at h; simpa [slOf] using h
  | .sl x :: l, j + 1, es, h0, h => (slCnt0 (l := l) (by simpa [slCnt] using h0) (by simpa using h)).elim
theorem nestL_len {α : Type} {kf : Nat} {c : α → List DV} {x : List α} : (nestL kf c x).length = x.length := by simp [nestL]
theorem nestL_get {α : Type} {kf : Nat} {c : α → List DV} {x : List α} {i : Nat} : (nestL kf c x)[i]? = (x[i]?).map fun a => nestC kf i (c a) := by simp [nestL, List.getElem?_mapIdx]
theorem famL_get {α : Type} {ft : TypeId} {fz : Nat} {c : α → List DV} {x : List α} {i : Nat} : (famL ft fz c x)[i]? = (x[i]?).map fun a => (⟨ft, fz, .data (slOf (c a))⟩ : AObj) := by simp [famL]
theorem lv_fam {α : Type} {h : Heap} {kf : Nat} {ft : TypeId} {fz : Nat} {c : α → List DV} {x : List α} {m : Nat} {a : α} (hf : h kf = .live (famL ft fz c x)) (he : x[m]? = some a) : lv h kf m = some ⟨ft, fz, .data (slOf (c a))⟩ := by
  rw [lv_live hf, famL_get, he]; rfl
theorem view_nest {α : Type} {h : Heap} {k kf n : Nat} {bt ft : TypeId} {sz fz : Nat} {c : α → List DV} {x : List α} (hk : h k = .live [⟨bt, sz, .av (nestL kf c x)⟩]) (hf : h kf = .live (famL ft fz c x)) (hone : ∀ a, slCnt (c a) = 1) (hn : n = x.length) : View h (.own k 0 n) (.d (.sl (x.map c))) := by
  refine .row k 0 n _ _ (lv_of hk) (by simp [Cells.len, nestL_len, hn]) (by simp [hn]) (fun i e he => ?_) fun i e cells j cc xx he hi hj hx => ?_
  · rw [List.getElem?_map] at he
    obtain ⟨a, ha, rfl⟩ := Option.map_eq_some_iff.1 he
    exact ⟨nestC kf i (c a), by simp [Cells.get, nestL_get, ha], nestC_len _ _ _⟩
  · rw [List.getElem?_map] at he
    obtain ⟨a, ha, rfl⟩ := Option.map_eq_some_iff.1 he
    simp only [Cells.get, nestL_get, ha, Option.map_some, Option.some.injEq] at hi
    subst hi
    rw [nestC_get, hx] at hj
    simp only [Option.map_some, Option.some.injEq] at hj
    subst hj
    cases xx with
    | v x => exact .d _
    | sl es => exact View.data (lv_fam hf ha) (by rw [slOf_of (hone a) hx]) rfl
theorem view_mem {α : Type} {h : Heap} {kf m n : Nat} {ft : TypeId} {fz : Nat} {c : α → List DV} {x : List α} {a : α} {es : List (List DV)} (hf : h kf = .live (famL ft fz c x)) (he : x[m]? = some a) (hs : slOf (c a) = es) (hn : n = es.length) : View h (.own kf m n) (.d (.sl es)) := View.data (lv_fam hf he) (by rw [hs]) hn.symm
theorem sflat_nest {α : Type} {t : TypeId} {z kf : Nat} {c : α → List DV} {x : List α} : SFlat (.live [⟨t, z, .av (nestL kf c x)⟩]) := by
  intro o ho
  simp only [List.mem_singleton] at ho
  subst ho
  intro e he
  obtain ⟨i, hi⟩ := List.getElem?_of_mem he
  rw [nestL_get] at hi
  obtain ⟨a, _, rfl⟩ := Option.map_eq_some_iff.1 hi
  exact nestC_flat _ _ _
theorem sflat_fam {α : Type} {ft : TypeId} {fz : Nat} {c : α → List DV} {x : List α} (hc : ∀ a, ∃ (β : Type) (ys : List β) (d : β → List DV), slOf (c a) = ys.map d ∧ ∀ y, (d y).all DV.flat = true) : SFlat (.live (famL ft fz c x)) := by
  intro o ho
  obtain ⟨a, _, rfl⟩ := List.mem_map.1 ho
  intro e he xx hx
  obtain ⟨β, ys, d, h1, h2⟩ := hc a
  have he : e ∈ slOf (c a) := he
  rw [h1] at he
  obtain ⟨y, _, rfl⟩ := List.mem_map.1 he
  exact List.all_eq_true.1 (h2 y) xx hx
theorem sflat_box {t : TypeId} {z : Nat} {cs : List AV} (hc : AV.flatL cs = true) : SFlat (.live [⟨t, z, .av [cs]⟩]) := by
  intro o ho
  simp only [List.mem_singleton] at ho
  subst ho
  intro e he
  simp only [List.mem_singleton] at he
  subst he
  exact hc
section
variable {P : Program} {T : Tab} {L N : Nat} {ops : Array Oper} {E : Env} {K : List (Nat × Cls) → AS → Prop} {i : Nat} {is : List Nat} {t : Nat → AV} {h h' : Heap} {d : Tmp} {dst : Option Tmp} {op : Op} {ty : TypeId} {pos : String} {aft : Array Edge} {g : Option (Nat × Bool)}

theorem c_call (B : Nat) {f : FuncId} {x : Operand} {args : Array Operand} {at_ : Array TypeId} {caps as : List AV} {hs : List Slot} {r r' : AV} (hF : FnC P f [] as hs r) (hx : evA N ⟨t, h⟩ x = .fn f caps) (ha : evL N ⟨t, h⟩ args.toList ++ caps = as) (hfr : AV.freeL as = true)
    (hB : Abv h B := by repeat (first | exact abv_nil _ | exact abv_lks rfl | refine abv_upd ?_ rfl))
    (hr : RenR (B + ·) r r' := by repeat (first | exact RenRL.nil | apply RenRL.cons | exact RenR.d _ | apply RenR.agg | apply RenR.tup | exact RenR.own _ _ _ _ rfl | exact RenR.ptr _ _ _ _ _ _ rfl | exact RenR.ref _ | apply RenR.fn | exact RenR.dead))
    (hb : BirR (B + ·) B hs h h' := by repeat (first | exact BirR.nil _ _ | (apply BirR.cons; (first | exact RenS.no | exact RenS.dead | exact RenS.data _ _ _ | exact RenS.nest rfl | exact RenS.fam | exact RenS.gen _)))) :
    Heavy1 P N ⟨dst, .call ⟨.value x, args, at_⟩, ty, pos, aft, g⟩ ⟨t, h⟩ r' h' ∧ ∀ k, h k ≠ .no → h' k = h k := st_call B hx ha hfr hF hB hr hb
theorem b_call (B : Nat) {f : FuncId} {x : Operand} {args : Array Operand} {at_ : Array TypeId} {caps as : List AV} {hs : List Slot} {r r' : AV} (hF : FnC P f [] as hs r) (hx : evA N ⟨t, h⟩ x = .fn f caps) (ha : evL N ⟨t, h⟩ args.toList ++ caps = as) (hfr : AV.freeL as = true)
    (hB : Abv h B := by repeat (first | exact abv_nil _ | exact abv_lks rfl | refine abv_upd ?_ rfl))
    (hr : RenR (B + ·) r r' := by repeat (first | exact RenRL.nil | apply RenRL.cons | exact RenR.d _ | apply RenR.agg | apply RenR.tup | exact RenR.own _ _ _ _ rfl | exact RenR.ptr _ _ _ _ _ _ rfl | exact RenR.ref _ | apply RenR.fn | exact RenR.dead))
    (hb : BirR (B + ·) B hs h h' := by repeat (first | exact BirR.nil _ _ | (apply BirR.cons; (first | exact RenS.no | exact RenS.dead | exact RenS.data _ _ _ | exact RenS.nest rfl | exact RenS.fam | exact RenS.gen _)))) :
    Abv h B ∧ (∀ hx : Heap, Abv hx B → (∀ p, h p ≠ .no → hx p = h p) → Heavy1 P N ⟨dst, .call ⟨.value x, args, at_⟩, ty, pos, aft, g⟩ ⟨t, hx⟩ r' (over B hx h')) ∧ over B h h' = h' := sb_call B hx ha hfr hF hB hr hb
theorem view_rows {α : Type} {k f : Nat} {bt : TypeId} {sz : Nat} {c : α → List DV} {es : List α} (ho : lv h k f = some ⟨bt, sz, .data (es.map c)⟩) : View h (.own k f es.length) (.d (.sl (es.map c))) := View.data ho rfl (by simp)
theorem view_rowsN {α : Type} {k f n : Nat} {bt : TypeId} {sz : Nat} {c : α → List DV} {es : List α} (ho : lv h k f = some ⟨bt, sz, .data (es.map c)⟩) (hn : n = es.length) : View h (.own k f n) (.d (.sl (es.map c))) := View.data ho rfl (by simp [hn])
theorem c_callV (B : Nat) {f : FuncId} {x : Operand} {args : Array Operand} {at_ : Array TypeId} {caps as : List AV} {hs : List Slot} {r r' : AV} (hF : FnC P f [] as hs r) (hx : evA N ⟨t, h⟩ x = .fn f caps) (hfl : r.flat = true)
    (ha : Vs h (evL N ⟨t, h⟩ args.toList ++ caps) as := by repeat (first | exact Vs.nil | apply Vs.cons | exact View.d _ | exact view_rows rfl | exact view_rowsN rfl (by first | (simp; done) | omega | (simp; omega)) | exact view_part rfl (by (repeat (first | exact PreA.z _ | apply PreA.t | apply PreA.d)); first | done | fail) | apply View.agg_ | apply View.fn_ | exact view_ref (by (repeat (first | exact Pre.z _ | apply Pre.t)); first | done | fail) | exact view_nest rfl rfl (fun _ => rfl) (by first | rfl | (simp; done) | omega | (simp; omega)) | exact view_mem rfl (by assumption) rfl (by first | rfl | (simp; done) | omega | (simp; omega)) | exact view_partV rfl (by (repeat (first | exact PreV.z _ | apply PreV.t (View.d _) | apply PreV.t (view_rows rfl) | apply PreV.t (view_rowsN rfl (by first | (simp; done) | omega | (simp; omega))) | apply PreV.t (view_nest rfl rfl (fun _ => rfl) (by first | rfl | (simp; done) | omega | (simp; omega))) | apply PreV.d)); first | done | fail)))
    (hfs : ∀ s ∈ hs, SFlat s := by repeat (first | exact sf_nil | refine sf_cons (sflat_rows (fun _ => rfl)) ?_ | refine sf_cons (sflat_box rfl) ?_ | refine sf_cons sflat_nest ?_ | refine sf_cons (sflat_fam fun _ => ⟨_, _, _, rfl, fun _ => rfl⟩) ?_))
    (hB : Abv h B := by repeat (first | exact abv_nil _ | exact abv_lks rfl | refine abv_upd ?_ rfl))
    (hr : RenR (B + ·) r r' := by repeat (first | exact RenRL.nil | apply RenRL.cons | exact RenR.d _ | apply RenR.agg | apply RenR.tup | exact RenR.own _ _ _ _ rfl | exact RenR.ptr _ _ _ _ _ _ rfl | exact RenR.ref _ | apply RenR.fn | exact RenR.dead))
    (hb : BirR (B + ·) B hs h h' := by repeat (first | exact BirR.nil _ _ | (apply BirR.cons; (first | exact RenS.no | exact RenS.dead | exact RenS.data _ _ _ | exact RenS.nest rfl | exact RenS.fam | exact RenS.gen _)))) :
    Heavy1 P N ⟨dst, .call ⟨.value x, args, at_⟩, ty, pos, aft, g⟩ ⟨t, h⟩ r' h' ∧ ∀ k, h k ≠ .no → h' k = h k := st_callV B hx ha hF hfl hfs hB hr hb
theorem b_callV (B : Nat) {f : FuncId} {x : Operand} {args : Array Operand} {at_ : Array TypeId} {caps as : List AV} {hs : List Slot} {r r' : AV} (hF : FnC P f [] as hs r) (hx : evA N ⟨t, h⟩ x = .fn f caps) (hfl : r.flat = true)
    (ha : Vs h (evL N ⟨t, h⟩ args.toList ++ caps) as := by repeat (first | exact Vs.nil | apply Vs.cons | exact View.d _ | exact view_rows rfl | exact view_rowsN rfl (by first | (simp; done) | omega | (simp; omega)) | exact view_part rfl (by (repeat (first | exact PreA.z _ | apply PreA.t | apply PreA.d)); first | done | fail) | apply View.agg_ | apply View.fn_ | exact view_ref (by (repeat (first | exact Pre.z _ | apply Pre.t)); first | done | fail) | exact view_nest rfl rfl (fun _ => rfl) (by first | rfl | (simp; done) | omega | (simp; omega)) | exact view_mem rfl (by assumption) rfl (by first | rfl | (simp; done) | omega | (simp; omega)) | exact view_partV rfl (by (repeat (first | exact PreV.z _ | apply PreV.t (View.d _) | apply PreV.t (view_rows rfl) | apply PreV.t (view_rowsN rfl (by first | (simp; done) | omega | (simp; omega))) | apply PreV.t (view_nest rfl rfl (fun _ => rfl) (by first | rfl | (simp; done) | omega | (simp; omega))) | apply PreV.d)); first | done | fail)))
    (hfs : ∀ s ∈ hs, SFlat s := by repeat (first | exact sf_nil | refine sf_cons (sflat_rows (fun _ => rfl)) ?_ | refine sf_cons (sflat_box rfl) ?_ | refine sf_cons sflat_nest ?_ | refine sf_cons (sflat_fam fun _ => ⟨_, _, _, rfl, fun _ => rfl⟩) ?_))
    (hB : Abv h B := by repeat (first | exact abv_nil _ | exact abv_lks rfl | refine abv_upd ?_ rfl))
    (hr : RenR (B + ·) r r' := by repeat (first | exact RenRL.nil | apply RenRL.cons | exact RenR.d _ | apply RenR.agg | apply RenR.tup | exact RenR.own _ _ _ _ rfl | exact RenR.ptr _ _ _ _ _ _ rfl | exact RenR.ref _ | apply RenR.fn | exact RenR.dead))
    (hb : BirR (B + ·) B hs h h' := by repeat (first | exact BirR.nil _ _ | (apply BirR.cons; (first | exact RenS.no | exact RenS.dead | exact RenS.data _ _ _ | exact RenS.nest rfl | exact RenS.fam | exact RenS.gen _)))) :
    Abv h B ∧ (∀ hx : Heap, Abv hx B → (∀ p, h p ≠ .no → hx p = h p) → Heavy1 P N ⟨dst, .call ⟨.value x, args, at_⟩, ty, pos, aft, g⟩ ⟨t, hx⟩ r' (over B hx h')) ∧ over B h h' = h' := sb_callV B hx ha hF hfl hfs hB hr hb

theorem bx_ld1 (hT : TOk P T) {lt bt : TypeId} {x : Operand} {k j sz : Nat} {cells : List AV} {c : AV} {ti : TI} (hx : evA N ⟨t, h⟩ x = .ptr k 0 1 0 j) (h1 : T lt = some ti) (h2 : isRow ti.desc = false) (hk : h k = .live [⟨bt, sz, .av [cells]⟩]) (hc : cells[j]? = some c) :
    Light1 P N ⟨some d, .load lt x, ty, pos, aft, g⟩ ⟨t, h⟩ c := li_load1 hT hx h1 h2 (lv_of hk) rfl rfl hc
theorem bx_ldN (hT : TOk P T) {lt bt : TypeId} {x : Operand} {k j sz : Nat} {cells out : List AV} {ti : TI} (hx : evA N ⟨t, h⟩ x = .ptr k 0 1 0 j) (h1 : T lt = some ti) (h2 : isRow ti.desc = true) (hk : h k = .live [⟨bt, sz, .av [cells]⟩])
    (hc : Seg j ti.size cells out := by repeat (first | exact Seg.z _ | apply Seg.t | apply Seg.d)) :
    Light1 P N ⟨some d, .load lt x, ty, pos, aft, g⟩ ⟨t, h⟩ (.agg out) := li_loadN hT hx h1 h2 (lv_of hk) rfl rfl hc
theorem bx_fa (hT : TOk P T) {s bt : TypeId} {x : Operand} {q k j sz : Nat} {cells : List AV} {ti fi : TI} {fs : Array Field} {fld : Field} (hx : evA N ⟨t, h⟩ x = .ptr k 0 1 0 j) (h1 : T s = some ti) (h2 : ti.desc = .struct fs) (h3 : fs[q]? = some fld)
    (h4 : T fld.type = some fi) (h5 : Nat.beq fi.size 0 = false) (hk : h k = .live [⟨bt, sz, .av [cells]⟩]) : Light1 P N ⟨some d, .fieldAddr s x q, ty, pos, aft, g⟩ ⟨t, h⟩ (.ptr k 0 1 0 (j + fld.offset)) := li_fieldAddr hT hx h1 h2 h3 h4 h5 (lv_of hk) rfl rfl
theorem bx_nil {bt : TypeId} {x : Operand} {k j sz : Nat} {cells : List AV} (hx : evA N ⟨t, h⟩ x = .ptr k 0 1 0 j) (hk : h k = .live [⟨bt, sz, .av [cells]⟩]) : Light1 P N ⟨some d, .nilCheck x, ty, pos, aft, g⟩ ⟨t, h⟩ (.ptr k 0 1 0 j) := li_nil hx (lv_of hk) rfl rfl
theorem bx_st (hT : TOk P T) {bt bt' : TypeId} {x y : Operand} {k j sz : Nat} {cells cs cells' : List AV} {ti : TI} (hx : evA N ⟨t, h⟩ x = .ptr k 0 1 0 j) (hy : cellsA (evA N ⟨t, h⟩ y) = cs) (ho : okL cs = true) (h1 : T bt = some ti)
    (hl : Nat.beq cs.length ti.size = true) (hpos : Nat.blt 0 ti.size = true) (hk : h k = .live [⟨bt', sz, .av [cells]⟩]) (hs : Spl j cs cells cells' := by repeat (first | exact Spl.z _ | apply Spl.t | apply Spl.d)) :
    Heavy1 P N ⟨dst, .store bt x y, ty, pos, aft, g⟩ ⟨t, h⟩ .dead (upd h k (.live [⟨bt', sz, .av [cells']⟩])) := wr_store hT hx hy ho h1 hl hpos hk rfl rfl rfl hs (.box _ _) (.one _ _)

theorem sl_ix {α : Type} (hT : TOk P T) {st_ e : TypeId} {x y : Operand} {kk : IntKind} {iv : Int} {c : α → List DV} {es : List α} {ed : α} {ti ei : TI} (he : atI es iv = some ed) (hx : evA N ⟨t, h⟩ x = .d (.sl (es.map c))) (hy : evA N ⟨t, h⟩ y = .d (.v (.int kk iv)))
    (h1 : T st_ = some ti) (h2 : ti.desc = .slice e) (h3 : T e = some ei) (hs : (c ed).length = ei.size) : Pure1 P N ⟨some d, .indexAddr st_ x y, ty, pos, aft, g⟩ ⟨t, h⟩ (.ref (c ed)) :=
  pu_index_sl hT hx hy (atI_e he).1 h1 h2 h3 (map_at (atI_e he).2.1) hs
theorem ow_ix {α : Type} (hT : TOk P T) {st_ e bt : TypeId} {x y : Operand} {kk : IntKind} {iv : Int} {k sz n : Nat} {c : α → List DV} {es : List α} {ed : α} {ti ei : TI} (he : atI es iv = some ed) (hx : evA N ⟨t, h⟩ x = .own k 0 n) (hy : evA N ⟨t, h⟩ y = .d (.v (.int kk iv)))
    (h1 : T st_ = some ti) (h2 : ti.desc = .slice e) (h3 : T e = some ei) (hk : h k = .live [⟨bt, sz, .data (es.map c)⟩]) (hn : n = es.length) (hs : sz = ei.size) : Light1 P N ⟨some d, .indexAddr st_ x y, ty, pos, aft, g⟩ ⟨t, h⟩ (.ptr k 0 n iv.toNat 0) :=
  li_index hT hx hy (atI_e he).1 (hn ▸ (atI_e he).2.2) h1 h2 h3 (lv_of hk) (rows_len.trans hn.symm) hs
theorem rw_ld1 {α : Type} (hT : TOk P T) {lt bt : TypeId} {x : Operand} {k n m j sz : Nat} {c : α → List DV} {es : List α} {ed : α} {u : DV} {ti : TI} (he : es[m]? = some ed) (hx : evA N ⟨t, h⟩ x = .ptr k 0 n m j) (h1 : T lt = some ti) (h2 : isRow ti.desc = false) (hk : h k = .live [⟨bt, sz, .data (es.map c)⟩]) (hn : n = es.length)
    (hc : (c ed)[j]? = some u) : Light1 P N ⟨some d, .load lt x, ty, pos, aft, g⟩ ⟨t, h⟩ (.d u) := li_load1 hT hx h1 h2 (lv_of hk) (rows_len.trans hn.symm) (rows_get he) (map_at hc)
theorem rw_fa {α : Type} (hT : TOk P T) {s bt : TypeId} {x : Operand} {q k n m j sz : Nat} {c : α → List DV} {es : List α} {ti fi : TI} {fs : Array Field} {fld : Field} {ed : α} (he : es[m]? = some ed) (hx : evA N ⟨t, h⟩ x = .ptr k 0 n m j) (h1 : T s = some ti) (h2 : ti.desc = .struct fs) (h3 : fs[q]? = some fld)
    (h4 : T fld.type = some fi) (h5 : Nat.beq fi.size 0 = false) (hk : h k = .live [⟨bt, sz, .data (es.map c)⟩]) (hn : n = es.length) : Light1 P N ⟨some d, .fieldAddr s x q, ty, pos, aft, g⟩ ⟨t, h⟩ (.ptr k 0 n m (j + fld.offset)) :=
  li_fieldAddr hT hx h1 h2 h3 h4 h5 (lv_of hk) (rows_len.trans hn.symm) (rows_get he)
theorem rw_st {α : Type} (hT : TOk P T) {bt bt' : TypeId} {x y : Operand} {k n m j sz : Nat} {c : α → List DV} {es : List α} {ed : α} (ed' : α) {cs : List AV} {ti : TI} (he : es[m]? = some ed) (hx : evA N ⟨t, h⟩ x = .ptr k 0 n m j) (hy : cellsA (evA N ⟨t, h⟩ y) = cs) (ho : okL cs = true) (h1 : T bt = some ti)
    (hl : Nat.beq cs.length ti.size = true) (hpos : Nat.blt 0 ti.size = true) (hk : h k = .live [⟨bt', sz, .data (es.map c)⟩]) (hn : n = es.length) (hs : Spl j cs ((c ed).map .d) ((c ed').map .d) := by repeat (first | exact Spl.z _ | apply Spl.t | apply Spl.d)) :
    Heavy1 P N ⟨dst, .store bt x y, ty, pos, aft, g⟩ ⟨t, h⟩ .dead (upd h k (.live [⟨bt', sz, .data ((es.set m ed').map c)⟩])) := by
  rw [List.map_set]
  refine wr_store hT hx hy ho h1 hl hpos hk rfl (rows_len.trans hn.symm) (rows_get he) hs (.data _ _ ?_) (.one _ _)
  generalize c ed' = l
  induction l with
  | nil => exact .nil
  | cons x l ih => exact .cons ih
theorem ow_len {α : Type} (hT : TOk P T) {st_ e bt : TypeId} {x : Operand} {k n sz : Nat} {c : α → List DV} {es : List α} {ti : TI} (hx : evA N ⟨t, h⟩ x = .own k 0 n) (h1 : T st_ = some ti) (h2 : ti.desc = .slice e) (hk : h k = .live [⟨bt, sz, .data (es.map c)⟩]) (hn : n = es.length) :
    Light1 P N ⟨some d, .call ⟨.builtin .len, #[x], #[st_]⟩, ty, pos, aft, g⟩ ⟨t, h⟩ (.d (.v (.int .i64 (es.length : Int)))) := by
  subst hn
  exact li_len hT hx h1 h2 (lv_of hk) rows_len
theorem ap_own {α : Type} (hT : TOk P T) {bt e bt' : TypeId} {s x : Operand} {k n sz : Nat} {c : α → List DV} {es ns : List α} {ti ei : TI} (hb : (es.length + ns.length) * sz * 64 ≤ 140737488355328) (hs : evA N ⟨t, h⟩ s = .own k 0 n) (hx : evA N ⟨t, h⟩ x = .d (.sl (ns.map c))) (h1 : T bt = some ti) (h2 : ti.desc = .slice e) (h3 : T e = some ei)
    (hzs : Nat.beq ei.zero.cells.size ei.size = true) (hpos : Nat.blt 0 ei.size = true) (hsb : Nat.ble ei.bytes (ei.size * 64) = true) (hk : h k = .live [⟨bt', sz, .data (es.map c)⟩]) (hn : n = es.length) (hty : bt' = e) (hsz : sz = ei.size) (hcl : ∀ a, (c a).length = ei.size) :
    Heavy1 P N ⟨dst, .call ⟨.builtin .append, #[s, x], #[bt, bt]⟩, ty, pos, aft, g⟩ ⟨t, h⟩ (.own k 0 (es ++ ns).length) (upd h k (.live [⟨bt', sz, .data ((es ++ ns).map c)⟩])) := by
  subst hn
  have hle := Nat.le_of_ble_eq_true hsb
  have hp := blt_lt hpos
  have e1 : (es.length + ns.length) * ei.bytes ≤ (es.length + ns.length) * sz * 64 := by
    rw [Nat.mul_assoc, hsz]; exact Nat.mul_le_mul_left _ hle
  have e2 : es.length + ns.length ≤ (es.length + ns.length) * sz := Nat.le_mul_of_pos_right _ (by omega)
  have := wr_append (P := P) (N := N) (dst := dst) (ty := ty) (pos := pos) (aft := aft) (g := g) (n := es.length) hT hs hx h1 h2 h3 hzs hpos hk rfl rows_len hty hsz (fun x hx => by obtain ⟨a, _, rfl⟩ := List.mem_map.1 hx; exact hcl a) (.data _ _) (.one _ _)
    (by rw [List.length_map]; omega) (by rw [List.length_map]; omega)
  rw [List.length_map, ← List.map_append, ← List.length_append] at this
  exact this
theorem ap_oo {α : Type} (hT : TOk P T) {bt e bt' bt2 : TypeId} {s x : Operand} {k k2 n n2 sz sz2 : Nat} {c : α → List DV} {es ns : List α} {ti ei : TI} (hb : (es.length + ns.length) * sz * 64 ≤ 140737488355328) (hs : evA N ⟨t, h⟩ s = .own k 0 n) (hx : evA N ⟨t, h⟩ x = .own k2 0 n2) (h1 : T bt = some ti) (h2 : ti.desc = .slice e) (h3 : T e = some ei)
    (hzs : Nat.beq ei.zero.cells.size ei.size = true) (hpos : Nat.blt 0 ei.size = true) (hsb : Nat.ble ei.bytes (ei.size * 64) = true) (hk : h k = .live [⟨bt', sz, .data (es.map c)⟩]) (hn : n = es.length) (hty : bt' = e) (hsz : sz = ei.size) (hk2 : h k2 = .live [⟨bt2, sz2, .data (ns.map c)⟩]) (hn2 : n2 = ns.length) (hsz2 : sz2 = ei.size) :
    Heavy1 P N ⟨dst, .call ⟨.builtin .append, #[s, x], #[bt, bt]⟩, ty, pos, aft, g⟩ ⟨t, h⟩ (.own k 0 (es ++ ns).length) (upd h k (.live [⟨bt', sz, .data ((es ++ ns).map c)⟩])) := by
  subst hn hn2
  have hle := Nat.le_of_ble_eq_true hsb
  have hp := blt_lt hpos
  have e1 : (es.length + ns.length) * ei.bytes ≤ (es.length + ns.length) * sz * 64 := by
    rw [Nat.mul_assoc, hsz]; exact Nat.mul_le_mul_left _ hle
  have e2 : es.length + ns.length ≤ (es.length + ns.length) * sz := Nat.le_mul_of_pos_right _ (by omega)
  have := wr_append_own (P := P) (N := N) (dst := dst) (ty := ty) (pos := pos) (aft := aft) (g := g) (n := es.length) (m := ns.length) hT hs hx h1 h2 h3 hzs hpos hk rfl rows_len hty hsz (lv_of hk2) rows_len hsz2 trivial (.data _ _) (.one _ _)
    (by omega) (by omega)
  rw [← List.map_append, ← List.length_append] at this
  exact this
theorem mk_own {α : Type} (k : Nat) (hT : TOk P T) {bt e : TypeId} {x y : Operand} {kx ky : IntKind} {a b : Int} {ti ei : TI} {zs : List DV} {c : α → List DV} {sz : Nat} (z : α) (hb : 0 ≤ a ∧ a = b ∧ a.toNat * sz * 64 ≤ 281474976710656) (hx : evA N ⟨t, h⟩ x = .d (.v (.int kx a))) (hy : evA N ⟨t, h⟩ y = .d (.v (.int ky b)))
    (h1 : T bt = some ti) (h2 : ti.desc = .slice e) (h3 : T e = some ei) (hsz : ei.size = sz) (hz : dvL ei.zero.cells.toList = zs) (hone : oneL ei.zero.cells.toList = true) (hzs : Nat.beq zs.length ei.size = true) (hpos : Nat.blt 0 ei.size = true) (hsb : Nat.ble ei.bytes (ei.size * 64) = true) (hk : h k = .no) (hcz : zs = c z) :
    Heavy1 P N ⟨some d, .makeSlice bt x y, ty, pos, aft, g⟩ ⟨t, h⟩ (.own k 0 (List.replicate a.toNat z).length) (upd h k (.live [⟨e, ei.size, .data ((List.replicate a.toNat z).map c)⟩])) ∧ ∀ k', h k' ≠ .no → upd h k (.live [⟨e, ei.size, .data ((List.replicate a.toNat z).map c)⟩]) k' = h k' := by
  subst hsz
  obtain ⟨b1, rfl, b3⟩ := hb
  have hle := Nat.le_of_ble_eq_true hsb
  have hp := blt_lt hpos
  have e1 : ei.bytes * a.toNat ≤ a.toNat * ei.size * 64 := by rw [Nat.mul_comm, Nat.mul_assoc]; exact Nat.mul_le_mul_left _ hle
  have e2 : a.toNat ≤ a.toNat * ei.size := Nat.le_mul_of_pos_right _ (by omega)
  have := st_make (P := P) (N := N) (d := d) (ty := ty) (pos := pos) (aft := aft) (g := g) (l := a.toNat) (c := a.toNat) k hT hx hy (by omega) (by omega) (Nat.le_refl _) h1 h2 h3 hz hone hzs hpos (by omega) (by omega) hk
  rw [hcz, ← List.map_replicate] at this
  rw [List.length_replicate]
  exact this
theorem bs_val {α : Type} (hT : TOk P T) {bt e : TypeId} {len : Nat} {parts : Array (Nat × Operand)} {ti ei : TI} {es : List (List AV)} {ds : List (List DV)} (c : α → List DV) (xs : List α) (h1 : T bt = some ti) (h2 : ti.desc = .slice e) (h3 : T e = some ei)
    (hel : Els (evA N ⟨t, h⟩) ei.size 0 parts.toList es) (hlen : Nat.beq es.length len = true) (hpos : Nat.blt 0 (len * ei.size) = true) (hsm : Nat.ble (len * ei.size) 16777216 = true) (hcc : AllDD es ds) (hxs : ds = xs.map c) :
    Heavy1 P N ⟨some d, .buildSlice bt len parts, ty, pos, aft, g⟩ ⟨t, h⟩ (.d (.sl (xs.map c))) h ∧ ∀ k', h k' ≠ .no → h k' = h k' := by
  subst hxs
  exact st_slice_val hT h1 h2 h3 hel hlen hpos hsm hcc
theorem bs_own {α : Type} (k : Nat) (hT : TOk P T) {bt e : TypeId} {len : Nat} {parts : Array (Nat × Operand)} {ti ei : TI} {es : List (List AV)} {ds : List (List DV)} (c : α → List DV) (xs : List α) (h1 : T bt = some ti) (h2 : ti.desc = .slice e) (h3 : T e = some ei)
    (hel : Els (evA N ⟨t, h⟩) ei.size 0 parts.toList es) (hlen : Nat.beq es.length len = true) (hpos : Nat.blt 0 (len * ei.size) = true) (hsm : Nat.ble (len * ei.size) 16777216 = true) (hcc : AllDD es ds) (hxs : ds = xs.map c) (hk : h k = .no) :
    Heavy1 P N ⟨some d, .buildSlice bt len parts, ty, pos, aft, g⟩ ⟨t, h⟩ (.own k 0 xs.length) (upd h k (.live [⟨e, ei.size, .data (xs.map c)⟩])) ∧ ∀ k', h k' ≠ .no → upd h k (.live [⟨e, ei.size, .data (xs.map c)⟩]) k' = h k' := by
  subst hxs
  have hl : len = xs.length := by
    have h5 := Nat.eq_of_beq_eq_true hlen
    have h6 := congrArg List.length hcc.eq_
    simp at h6
    omega
  have := st_slice (P := P) (N := N) (d := d) (ty := ty) (pos := pos) (aft := aft) (g := g) k hT h1 h2 h3 hel hlen hpos hsm (.data hcc) hk
  rw [hl] at this ⊢
  exact this
end
end Go.Proofs.YtjjelnpehgoagaaGreatDoor
namespace Go.Proofs.YtjjelnpehgoagaaGreatDoor
open Go.RowKit
set_option linter.unusedVariables false
set_option maxRecDepth 100000
def strAt (s : ByteArray) (i : Int) : Option Int := if 0 ≤ i then (s[i.toNat]?).map (fun b => (b.toNat : Int)) else none
theorem orE_s {V Z : Type} {z r : Z} {f : V → Option Z} (h : orE (.inr z) f = some r) : some z = some r := h
theorem orE_f {V Z : Type} {v : V} {r : Z} {f : V → Option Z} (h : orE (.inl v) f = some r) : f v = some r := h
section
variable {P : Program} {T : Tab} {L N : Nat} {ops : Array Oper} {E : Env} {K : List (Nat × Cls) → AS → Prop} {i : Nat} {is : List Nat} {t : Nat → AV} {h h' : Heap} {d : Tmp} {dst : Option Tmp} {op : Op} {ty : TypeId} {pos : String} {aft : Array Edge} {g : Option (Nat × Bool)} {Q : AExit → AS → Prop} {σ : AS} {xt yt : TypeId} {x y : Operand} {a b : Int}

theorem pw_add (hx : evA N ⟨t, h⟩ x = .d (.v (.int .i64 a))) (hy : evA N ⟨t, h⟩ y = .d (.v (.int .i64 b))) : Pure1 P N ⟨some d, .binOp .add xt x y yt, ty, pos, aft, g⟩ ⟨t, h⟩ (.d (.v (.int .i64 (w64 (a + b))))) := pu_addw hx hy
theorem pw_sub (hx : evA N ⟨t, h⟩ x = .d (.v (.int .i64 a))) (hy : evA N ⟨t, h⟩ y = .d (.v (.int .i64 b))) : Pure1 P N ⟨some d, .binOp .sub xt x y yt, ty, pos, aft, g⟩ ⟨t, h⟩ (.d (.v (.int .i64 (w64 (a - b))))) := pu_subw hx hy
theorem pw_mul (hx : evA N ⟨t, h⟩ x = .d (.v (.int .i64 a))) (hy : evA N ⟨t, h⟩ y = .d (.v (.int .i64 b))) : Pure1 P N ⟨some d, .binOp .mul xt x y yt, ty, pos, aft, g⟩ ⟨t, h⟩ (.d (.v (.int .i64 (w64 (a * b))))) := pu_mulw hx hy
theorem pw_quo (hx : evA N ⟨t, h⟩ x = .d (.v (.int .i64 a))) (hy : evA N ⟨t, h⟩ y = .d (.v (.int .i64 b))) (hb : b ≠ 0) : Pure1 P N ⟨some d, .binOp .quo xt x y yt, ty, pos, aft, g⟩ ⟨t, h⟩ (.d (.v (.int .i64 (w64 (a.tdiv b))))) := pu_quow hx hy hb
theorem pw_neg (hx : evA N ⟨t, h⟩ x = .d (.v (.int .i64 a))) : Pure1 P N ⟨some d, .unOp .neg xt x, ty, pos, aft, g⟩ ⟨t, h⟩ (.d (.v (.int .i64 (w64 (-a))))) :=
  pu_un (by rw [hx]; rfl) fun w => by simp [Op.unary, Op.intArith, w64]
theorem pw_cv (hT : TOk P T) {st_ dt : TypeId} {d1 d2 : TI} {k1 : IntKind} (h1 : T st_ = some d1) (h2 : T dt = some d2) (e2 : d2.desc = .int .i64) (hx : evA N ⟨t, h⟩ x = .d (.v (.int k1 a))) (e1 : d1.desc = .int k1) :
    Pure1 P N ⟨some d, .convert st_ dt x, ty, pos, aft, g⟩ ⟨t, h⟩ (.d (.v (.int .i64 (w64 a)))) := pu_ii hT h1 h2 e2 hx e1
theorem pu_sidx (hT : TOk P T) {s : ByteArray} {kk : IntKind} {ti : TI} (hb : strAt s a = some b) (hx : evA N ⟨t, h⟩ x = .d (.v (.string s))) (hy : evA N ⟨t, h⟩ y = .d (.v (.int kk a))) (h1 : T xt = some ti) (h2 : ti.desc = .string) :
    Pure1 P N ⟨some d, .index xt x y, ty, pos, aft, g⟩ ⟨t, h⟩ (.d (.v (.int .u8 b))) := fun w F μ hh ρ st => by
  have e1 := rep_v (by have := st x (by simp [Op.operands]); rw [hx] at this; exact this)
  have e2 := rep_v (by have := st y (by simp [Op.operands]); rw [hy] at this; exact this)
  have hu := (hT _ _ h1).1
  rw [h2] at hu
  refine ⟨.int .u8 b, ?_, .d _ _ (.v _ rfl)⟩
  unfold strAt at hb
  split at hb
  · rename_i h0
    obtain ⟨c, hc, rfl⟩ := Option.map_eq_some_iff.1 hb
    simp [execOp, Instr.index, e1, e2, asIntOf, run_underlying hu, h0, hc]
  · cases hb
theorem pu_ssub (hT : TOk P T) {s : ByteArray} {lo hi : Option Operand} {ti : TI} (hab : 0 ≤ a ∧ a ≤ b ∧ b ≤ s.size) (hx : evA N ⟨t, h⟩ x = .d (.v (.string s))) (hlo : (lo = none ∧ a = 0) ∨ ∃ o k, lo = some o ∧ evA N ⟨t, h⟩ o = .d (.v (.int k a)))
    (hhi : (hi = none ∧ b = s.size) ∨ ∃ o k, hi = some o ∧ evA N ⟨t, h⟩ o = .d (.v (.int k b))) (h1 : T xt = some ti) (h2 : ti.desc = .string) : Pure1 P N ⟨some d, .slice xt x lo hi none, ty, pos, aft, g⟩ ⟨t, h⟩ (.d (.v (.string (s.extract a.toNat b.toNat)))) := fun w F μ hh ρ st => by
  have e1 := rep_v (by have := st x (by simp [Op.operands]); rw [hx] at this; exact this)
  have hu := (hT _ _ h1).1
  rw [h2] at hu
  obtain ⟨q0, q1, q2⟩ := hab
  refine ⟨.string (s.extract a.toNat b.toNat), ?_, .d _ _ (.v _ rfl)⟩
  rcases hlo with ⟨rfl, rfl⟩ | ⟨o1, k1, rfl, g1⟩ <;> rcases hhi with ⟨rfl, rfl⟩ | ⟨o2, k2, rfl, g2⟩
  · simp [execOp, Instr.sliceAt, Instr.slice, Instr.sliceBounds, e1, run_underlying hu]
  · have f2 := rep_v (by have := st o2 (by simp [Op.operands]); rw [g2] at this; exact this)
    simp [execOp, Instr.sliceAt, Instr.slice, Instr.sliceBounds, Instr.sliceBound, e1, f2, asIntOf, run_underlying hu, q1, q2]
  · have f1 := rep_v (by have := st o1 (by simp [Op.operands]); rw [g1] at this; exact this)
    simp [execOp, Instr.sliceAt, Instr.slice, Instr.sliceBounds, Instr.sliceBound, e1, f1, asIntOf, run_underlying hu, q0, q1]
  · have f1 := rep_v (by have := st o1 (by simp [Op.operands]); rw [g1] at this; exact this)
    have f2 := rep_v (by have := st o2 (by simp [Op.operands]); rw [g2] at this; exact this)
    have q3 : 0 ≤ b := by omega
    simp [execOp, Instr.sliceAt, Instr.slice, Instr.sliceBounds, Instr.sliceBound, e1, f1, f2, asIntOf, run_underlying hu, q0, q1, q2, q3]
    try omega
theorem wk {t' : Nat → AV} {ss : List Slot} (ks : List Nat) (hnd : ks.Nodup := by decide) (hlt : ∀ k ∈ ks, k < 300 := by decide) (h3 : (List.range L).all (fun p => nameL ks 300 p == p) = true := by decide)
    (hB : Abv h 300 := by repeat (first | exact abv_nil _ | exact abv_lks rfl | refine abv_upd ?_ rfl))
    (wt : WT (nameL ks 300) t t' := by repeat (first | exact WT.nil | refine WT.free_ rfl (by exact rfl) ?_ | refine WT.ren_ (r' := _) rfl (by repeat (first | exact RenRL.nil | apply RenRL.cons | exact RenR.d _ | apply RenR.agg | apply RenR.tup | exact RenR.own _ _ _ _ rfl | exact RenR.of_own (by first | rfl | (simp; done) | omega | (simp; omega)) rfl | exact RenR.ptr _ _ _ _ _ _ rfl | exact RenR.ref _ | apply RenR.fn | exact RenR.dead)) ?_))
    (wh : AtK (nameL ks 300) h ks ss := by repeat (first | exact AtK.nil | refine AtK.data_ (by exact rfl) ?_ | (apply AtK.cons rfl; (first | exact RenS.no | exact RenS.dead | exact RenS.data _ _ _ | exact RenS.nest rfl | exact RenS.fam | (apply RenS.box; (repeat (first | exact RenRL.nil | apply RenRL.cons | exact RenR.d _ | apply RenR.agg | apply RenR.tup | exact RenR.own _ _ _ _ rfl | exact RenR.of_own (by first | rfl | (simp; done) | omega | (simp; omega)) rfl | exact RenR.ptr _ _ _ _ _ _ rfl | exact RenR.ref _ | apply RenR.fn | exact RenR.dead))) | exact RenS.gen _)))) : Weak L N ⟨t, h⟩ ⟨t', lks ss⟩ := wk_of ks 300 hnd hlt h3 hB wt wh
theorem fz_r {k : Nat} {ty : TypeId} {sz : Nat} {es : List (List DV)} {t' : Nat → AV} (hk : h k = .live [⟨ty, sz, .data es⟩]) (z : FzL k (some es) none h h')
    (zt : FzT k (some es) none t t' := by repeat (first | exact FzT.nil | refine FzT.upd rfl (by repeat (first | exact FzRL.nil | apply FzRL.cons | exact FzR.own rfl (by first | rfl | (simp; done) | (simp; omega)) | exact FzR.d _ | exact FzR.own' | exact FzR.ptr' | exact FzR.ref _ | apply FzR.agg | apply FzR.tup | apply FzR.fn | exact FzR.dead _)) ?_)) : Weak L N ⟨t, h⟩ ⟨t', h'⟩ := weak_fz (fz_rows hk z) zt
theorem fz_b {k : Nat} {ty : TypeId} {sz : Nat} {cells : List AV} {ds : List DV} {t' : Nat → AV} (hk : h k = .live [⟨ty, sz, .av [cells]⟩]) (z : FzL k none (some ds) h h') (hd : AllD cells ds := by repeat (first | exact AllD.nil | apply AllD.cons))
    (zt : FzT k none (some ds) t t' := by repeat (first | exact FzT.nil | refine FzT.upd rfl (by repeat (first | exact FzRL.nil | apply FzRL.cons | exact FzR.ptr rfl (by repeat (first | exact Drp.z _ | apply Drp.d)) | exact FzR.d _ | exact FzR.own' | exact FzR.ptr' | exact FzR.ref _ | apply FzR.agg | apply FzR.tup | apply FzR.fn | exact FzR.dead _)) ?_)) : Weak L N ⟨t, h⟩ ⟨t', h'⟩ := weak_fz (fz_box hk hd z) zt
theorem c_callP (ks : List Nat) (B : Nat) {f : FuncId} {x : Operand} {args : Array Operand} {at_ : Array TypeId} {caps as as' : List AV} {hin hout : List Slot} {r r' : AV} (hF : FnC P f hin as hout r) (hx : evA N ⟨t, h⟩ x = .fn f caps) (ha : evL N ⟨t, h⟩ args.toList ++ caps = as')
    (har : RenRL (nameL ks B) as as' := by repeat (first | exact RenRL.nil | apply RenRL.cons | exact RenR.d _ | apply RenR.agg | apply RenR.tup | exact RenR.own _ _ _ _ rfl | exact RenR.of_own (by first | rfl | (simp; done) | omega | (simp; omega)) rfl | exact RenR.ptr _ _ _ _ _ _ rfl | exact RenR.ref _ | apply RenR.fn | exact RenR.dead))
    (hB : Abv h B := by repeat (first | exact abv_nil _ | exact abv_lks rfl | refine abv_upd ?_ rfl)) (hnd : ks.Nodup := by decide) (hlt : ∀ k ∈ ks, k < B := by decide)
    (hk : AtK (nameL ks B) h ks hin := by repeat (first | exact AtK.nil | refine AtK.data_ (by exact rfl) ?_ | (apply AtK.cons rfl; (first | exact RenS.no | exact RenS.dead | exact RenS.data _ _ _ | exact RenS.nest rfl | exact RenS.fam | (apply RenS.box; (repeat (first | exact RenRL.nil | apply RenRL.cons | exact RenR.d _ | apply RenR.agg | apply RenR.tup | exact RenR.own _ _ _ _ rfl | exact RenR.ptr _ _ _ _ _ _ rfl | exact RenR.ref _ | apply RenR.fn | exact RenR.dead))) | exact RenS.gen _))))
    (hb : UpdR (nameL ks B) h ks hout h' := by repeat (first | exact UpdR.nil _ | (apply UpdR.cons; (first | exact RenS.no | exact RenS.dead | exact RenS.data _ _ _ | exact RenS.nest rfl | exact RenS.fam | (apply RenS.box; (repeat (first | exact RenRL.nil | apply RenRL.cons | exact RenR.d _ | apply RenR.agg | apply RenR.tup | exact RenR.own _ _ _ _ rfl | exact RenR.ptr _ _ _ _ _ _ rfl | exact RenR.ref _ | apply RenR.fn | exact RenR.dead))) | exact RenS.gen _))))
    (hr : RenR (nameL ks B) r r' := by repeat (first | exact RenRL.nil | apply RenRL.cons | exact RenR.d _ | apply RenR.agg | apply RenR.tup | exact RenR.own _ _ _ _ rfl | exact RenR.ptr _ _ _ _ _ _ rfl | exact RenR.ref _ | apply RenR.fn | exact RenR.dead)) :
    Heavy1 P N ⟨dst, .call ⟨.value x, args, at_⟩, ty, pos, aft, g⟩ ⟨t, h⟩ r' h' := wr_callP ks B hx ha har hF hB hnd hlt hk hb hr
theorem ret0_ {fn : Func} {rs : List ResultVar} {as : List AV} {r : AV} (hrs : fn.results.toList = rs)
    (R : ResR T N ⟨t, h⟩ rs as := by repeat (first | exact ResR.nil | apply ResR.tmp (a := .d _) rfl | apply ResR.tmp (a := .own _ _ _) rfl | apply ResR.tmp (a := .agg _) rfl | apply ResR.tmp (a := .ref _) rfl | apply ResR.tmp (a := .ptr _ _ _ _ _) rfl | apply ResR.cell1 rfl rfl rfl rfl (by first | rfl) (by first | rfl) rfl | apply ResR.cellN rfl rfl rfl rfl (by first | rfl) (by first | rfl) (by repeat (first | exact Seg.z _ | apply Seg.t | apply Seg.d))))
    (hB : Abv h 300 := by repeat (first | exact abv_nil _ | exact abv_lks rfl | refine abv_upd ?_ rfl)) (e : resA as = r := by rfl) (hf : r.free = true := by rfl) : RetOk T N fn 0 [] r ⟨t, h⟩ := ret0 300 hrs R hB hf e
theorem retK_ {fn : Func} {rs : List ResultVar} {as : List AV} {r : AV} {hout : List Slot} (ks : List Nat) (hrs : fn.results.toList = rs)
    (R : ResR T N ⟨t, h⟩ rs as := by repeat (first | exact ResR.nil | apply ResR.tmp (a := .d _) rfl | apply ResR.tmp (a := .own _ _ _) rfl | apply ResR.tmp (a := .agg _) rfl | apply ResR.tmp (a := .ref _) rfl | apply ResR.tmp (a := .ptr _ _ _ _ _) rfl | apply ResR.cell1 rfl rfl rfl rfl (by first | rfl) (by first | rfl) rfl | apply ResR.cellN rfl rfl rfl rfl (by first | rfl) (by first | rfl) (by repeat (first | exact Seg.z _ | apply Seg.t | apply Seg.d))))
    (hB : Abv h 300 := by repeat (first | exact abv_nil _ | exact abv_lks rfl | refine abv_upd ?_ rfl)) (hnd : ks.Nodup := by decide) (hlt : ∀ k ∈ ks, k < 300 := by decide)
    (hk : AtK (nameL ks 300) h ks hout := by repeat (first | exact AtK.nil | refine AtK.data_ (by exact rfl) ?_ | (apply AtK.cons rfl; (first | exact RenS.no | exact RenS.dead | exact RenS.data _ _ _ | exact RenS.nest rfl | exact RenS.fam | exact RenS.gen _))))
    (e : RenR (nameL ks 300) r (resA as) := by repeat (first | exact RenRL.nil | apply RenRL.cons | exact RenR.d _ | apply RenR.agg | apply RenR.tup | exact RenR.own _ _ _ _ rfl | exact RenR.of_own (by first | rfl | (simp; done) | omega | (simp; omega)) rfl | exact RenR.ptr _ _ _ _ _ _ rfl | exact RenR.ref _ | apply RenR.fn | exact RenR.dead)) : RetOk T N fn 0 hout r ⟨t, h⟩ := retK ks 300 hrs R hB hnd hlt hk e.eq_
theorem retP_ {fn : Func} {rs : List ResultVar} {as : List AV} {r : AV} {hout : List Slot} (m : Nat) (hm : Nat.beq hout.length m = true) (hrs : fn.results.toList = rs)
    (R : ResR T N ⟨t, h⟩ rs as := by repeat (first | exact ResR.nil | apply ResR.tmp (a := .d _) rfl | apply ResR.tmp (a := .own _ _ _) rfl | apply ResR.tmp (a := .agg _) rfl | apply ResR.tmp (a := .ref _) rfl | apply ResR.tmp (a := .ptr _ _ _ _ _) rfl | apply ResR.cell1 rfl rfl rfl rfl (by first | rfl) (by first | rfl) rfl | apply ResR.cellN rfl rfl rfl rfl (by first | rfl) (by first | rfl) (by repeat (first | exact Seg.z _ | apply Seg.t | apply Seg.d))))
    (hB : Abv h 300 := by repeat (first | exact abv_nil _ | exact abv_lks rfl | refine abv_upd ?_ rfl)) (hlt : Nat.blt m 300 = true := by rfl)
    (hk : AtK (nameL (List.range m) 300) h (List.range m) hout := by repeat (first | exact AtK.nil | refine AtK.data_ (by exact rfl) ?_ | (apply AtK.cons rfl; (first | exact RenS.no | exact RenS.dead | exact RenS.data _ _ _ | exact RenS.nest rfl | exact RenS.fam | (apply RenS.box; (repeat (first | exact RenRL.nil | apply RenRL.cons | exact RenR.d _ | apply RenR.agg | apply RenR.tup | exact RenR.own _ _ _ _ rfl | exact RenR.ptr _ _ _ _ _ _ rfl | exact RenR.ref _ | apply RenR.fn | exact RenR.dead))) | exact RenS.gen _))))
    (e : RenR (nameL (List.range m) 300) r (resA as) := by repeat (first | exact RenRL.nil | apply RenRL.cons | exact RenR.d _ | apply RenR.agg | apply RenR.tup | exact RenR.own _ _ _ _ rfl | exact RenR.ptr _ _ _ _ _ _ rfl | exact RenR.ref _ | apply RenR.fn | exact RenR.dead)) : RetOk T N fn m hout r ⟨t, h⟩ := retP m 300 hm hrs R hB hlt hk e.eq_
end
end Go.Proofs.YtjjelnpehgoagaaGreatDoor
namespace Go.Proofs.YtjjelnpehgoagaaGreatDoor
open Go.RowKit
set_option linter.unusedVariables false
set_option maxRecDepth 100000
def bytesL (s : ByteArray) : List Int := s.data.toList.map fun b => (b.toNat : Int)
theorem bytesL_len (s : ByteArray) : (bytesL s).length = s.size := by simp [bytesL]
section
variable {P : Program} {T : Tab} {L N : Nat} {ops : Array Oper} {E : Env} {K : List (Nat × Cls) → AS → Prop} {i : Nat} {is : List Nat} {t : Nat → AV} {h h' : Heap} {d : Tmp} {dst : Option Tmp} {op : Op} {ty : TypeId} {pos : String} {aft : Array Edge} {g : Option (Nat × Bool)} {Q : AExit → AS → Prop} {σ : AS} {x y : Operand}

theorem cv_sb (hT : TOk P T) {st_ dt e : TypeId} {s : ByteArray} {d1 d2 d3 : TI} (hb : s.size ≤ 140737488355328) (hx : evA N ⟨t, h⟩ x = .d (.v (.string s))) (h1 : T st_ = some d1) (e1 : d1.desc = .string) (h2 : T dt = some d2) (e2 : d2.desc = .slice e) (h3 : T e = some d3) (e3 : d3.desc = .int .u8) :
    Heavy1 P N ⟨some d, .convert st_ dt x, ty, pos, aft, g⟩ ⟨t, h⟩ (.d (.sl ((bytesL s).map cU8))) h ∧ ∀ k', h k' ≠ .no → h k' = h k' := by
  refine ⟨fun E F μ w ρ H st => ?_, fun _ _ => rfl⟩
  have f1 := rep_v (by have := st x (by simp [Op.operands]); rw [hx] at this; exact this)
  have u1 := (hT _ _ h1).1
  rw [e1] at u1
  have u2 := (hT _ _ h2).1
  rw [e2] at u2
  have u3 := (hT _ _ h3).1
  rw [e3] at u3
  have hrun := run_bytes_of_string (P := P) w st_ dt e s u1 u2 u3
  have e4 : (execOp ρ ⟨some d, .convert st_ dt x, ty, pos, aft, g⟩).run P w = .ok (.value (.slice (some ⟨w.heap.size, 0, none⟩) s.size (grownCap w s.size 0 e))) (w.drew.alloc (.cells (bytesRow s (grownCap w s.size 0 e)) e ((bytesRow s (grownCap w s.size 0 e)).size, (bytesRow s (grownCap w s.size 0 e)).size + 1))) := by
    simp only [execOp, f1]
    rw [Sem.run_bind, hrun]; rfl
  rw [e4]
  have hge := grownCap_ge w s.size 0 e
  have hcm := grownCap_le_maxLen w s.size 0 e (by unfold maxLen; omega)
  obtain ⟨H1, V1⟩ := H.drew
  obtain ⟨H', V⟩ := H1.ice (.cells (bytesRow s (grownCap w s.size 0 e)) e ((bytesRow s (grownCap w s.size 0 e)).size, (bytesRow s (grownCap w s.size 0 e)).size + 1))
  refine ⟨_, μ, H', V1.trans V, .d _ _ ?_⟩
  have hl : ((bytesL s).map cU8).length = s.size := by rw [List.length_map, bytesL_len]
  have hat : ∀ (q : Nat) (ed : List DV), ((bytesL s).map cU8)[q]? = some ed → ∃ b : UInt8, s.data[q]? = some b ∧ ed = [.v (.int .u8 (b.toNat : Int))] := fun q ed hq => by
    simp only [List.getElem?_map, bytesL] at hq
    obtain ⟨v, hv, rfl⟩ := Option.map_eq_some_iff.1 hq
    obtain ⟨b, hb, rfl⟩ := Option.map_eq_some_iff.1 hv
    exact ⟨b, by simpa using hb, rfl⟩
  have hsl : DRep (w.drew.alloc (.cells (bytesRow s (grownCap w s.size 0 e)) e ((bytesRow s (grownCap w s.size 0 e)).size, (bytesRow s (grownCap w s.size 0 e)).size + 1))) (fun b => F b ∨ b = w.drew.heap.size) (.slice (some ⟨w.heap.size, 0, none⟩) ((bytesL s).map cU8).length (grownCap w s.size 0 e)) (.sl ((bytesL s).map cU8)) := by
    refine .sl w.heap.size 0 _ 1 _ (fun i j => .int .u8 (((s.data[i]?).getD 0).toNat : Int)) (.inr rfl) (by omega) hcm (fun q ed hq => ?_) (fun q ed j v hq hv => ?_) (fun q ed j v hq hv => ?_)
    · obtain ⟨b, _, rfl⟩ := hat q ed hq; rfl
    · obtain ⟨b, hb, rfl⟩ := hat q ed hq
      have hj : j = 0 := by
        cases j with
        | zero => rfl
        | succ j => simp at hv
      subst hj
      have hcr := cell_of_row _ w.heap.size (0 + q * 1 + 0) (bytesRow s (grownCap w s.size 0 e)) e _ (Go.heap_alloc_new w.drew (.cells (bytesRow s (grownCap w s.size 0 e)) e ((bytesRow s (grownCap w s.size 0 e)).size, (bytesRow s (grownCap w s.size 0 e)).size + 1)))
      rw [hcr]
      have hlt : q < s.data.size := (Array.getElem?_eq_some_iff.1 hb).1
      simp only [Nat.zero_add, Nat.mul_one, Nat.add_zero, bytesRow, hb, Option.getD_some]
      rw [Array.getElem?_append_left (by simpa using hlt), Array.getElem?_map, hb]; rfl
    · obtain ⟨b, hb, rfl⟩ := hat q ed hq
      have hj : j = 0 := by
        cases j with
        | zero => rfl
        | succ j => simp at hv
      subst hj
      simp at hv
      subst hv
      simp only [hb, Option.getD_some]
      exact .v _ rfl
  rw [hl] at hsl
  exact hsl
theorem cv_reads (hT : TOk P T) {st_ dt e : TypeId} {xs : List Int} {d1 d2 d3 : TI} (h1 : T st_ = some d1) (e1 : d1.desc = .slice e) (h2 : T dt = some d2) (e2 : d2.desc = .string) (h3 : T e = some d3) (e3 : d3.desc = .int .u8) {F : Nat → Prop} {μ : Places} {hh : Heap} {w : World} {v : Value}
    (hr : ReadsAs w F μ hh v 1 (.data (xs.map cU8))) : (convert st_ dt v).run P w = .ok (.string (strOfNums xs)) w := by
  have u1 := (hT _ _ h1).1
  rw [e1] at u1
  have u2 := (hT _ _ h2).1
  rw [e2] at u2
  have u3 := (hT _ _ h3).1
  rw [e3] at u3
  obtain ⟨A, c, rfl, hrd⟩ := hr
  have hlen : (Cells.data (xs.map cU8)).len = xs.length := rows_len
  rcases hrd with h0 | ⟨b, off, rfl, hrd⟩
  · rw [hlen] at h0
    have : xs = [] := List.eq_nil_of_length_eq_zero h0
    subst this
    cases A with
    | none => rw [run_convert_bytes_nil w st_ e u1 u3 _ _ dt u2]; rfl
    | some a =>
      have := run_convert_bytes_string (P := P) w st_ dt e (some a) 0 c u1 u3 u2
      have e4 := run_bytesToString (P := P) w a 0 c [] (by have := run_loadCells_list (P := P) w a [] (fun j v hv => by simp at hv); simpa using this)
      simp only [Cells.len, List.map_nil, List.length_nil] at *
      rw [this, e4]; rfl
  · rw [hlen]
    refine run_convert_bytes_arg w st_ e u1 u3 b off xs.length c xs rfl (fun q hq => ?_) dt u2
    obtain ⟨_, h5⟩ := hrd q ((cU8 xs[q]).map .d) (rows_get (List.getElem?_eq_getElem hq))
    obtain ⟨u, hu, _, hr⟩ := h5 0 (.d (.v (.int .u8 xs[q]))) rfl
    have hru : u = .int .u8 xs[q] := rep_v hr
    rw [Nat.mul_one, Nat.add_zero] at hu
    rw [hu, hru]
    simp [List.getD, List.getElem?_eq_getElem hq]
theorem cv_bo (hT : TOk P T) {st_ dt e bt : TypeId} {k n sz : Nat} {xs : List Int} {d1 d2 d3 : TI} (hx : evA N ⟨t, h⟩ x = .own k 0 n) (h1 : T st_ = some d1) (e1 : d1.desc = .slice e) (h2 : T dt = some d2) (e2 : d2.desc = .string) (h3 : T e = some d3) (e3 : d3.desc = .int .u8) (hk : h k = .live [⟨bt, sz, .data (xs.map cU8)⟩]) (hn : n = xs.length) (hs : sz = 1) :
    Heavy1 P N ⟨some d, .convert st_ dt x, ty, pos, aft, g⟩ ⟨t, h⟩ (.d (.v (.string (strOfNums xs)))) h ∧ ∀ k', h k' ≠ .no → h k' = h k' := by
  subst hn hs
  refine ⟨fun E F μ w ρ H st => ?_, fun _ _ => rfl⟩
  have hr := st x (by simp [Op.operands])
  rw [hx] at hr
  have := cv_reads (P := P) hT h1 e1 h2 e2 h3 e3 (reads_own H hr (lv_of hk) rows_len trivial)
  have e4 : (execOp ρ ⟨some d, .convert st_ dt x, ty, pos, aft, g⟩).run P w = .ok (.value (.string (strOfNums xs))) w := by
    simp only [execOp]
    rw [Sem.run_bind, this]; rfl
  rw [e4]
  exact ⟨F, μ, H, Evo.refl_, .d _ _ (.v _ rfl)⟩
theorem rt_wkd {k0 : Nat} {s : Slot} {r : AV} (ho : ops[i]? = some ⟨some d, op, ty, pos, aft, g⟩) (hw : Want N ops ⟨some d, op, ty, pos, aft, g⟩ ⟨t, h⟩) (hd : Nat.blt d N = true) (hp : Heavy1 P N ⟨some d, op, ty, pos, aft, g⟩ ⟨t, h⟩ r (upd h k0 s))
    (k : RT P N ops is (fun l σ' => K ((i, .wk k0) :: l) σ') ⟨updA t d r, upd h k0 s⟩) : RT P N ops (i :: is) K ⟨t, h⟩ := rt_cons ho (.wk k0 (dN hd) hw r _ hp fun p hp => upd_ne _ _ hp) k
def andK (k : IntKind) (a b : Int) : Int := k.wrap ((BitVec.ofInt k.bits a &&& BitVec.ofInt k.bits b).toNat : Int)
def shrK (k : IntKind) (a b : Int) : Int := a.fdiv (2 ^ min b.toNat k.bits)
theorem pu_and {k : IntKind} {a b : Int} {xt yt : TypeId} (hx : evA N ⟨t, h⟩ x = .d (.v (.int k a))) (hy : evA N ⟨t, h⟩ y = .d (.v (.int k b))) : Pure1 P N ⟨some d, .binOp .and xt x y yt, ty, pos, aft, g⟩ ⟨t, h⟩ (.d (.v (.int k (andK k a b)))) :=
  pu_bin (by rw [hx]; rfl) (by rw [hy]; rfl) fun w => by simp [eqGuard, binOp, Op.intBits, andK]
theorem pu_shr {k k2 : IntKind} {a b : Int} {xt yt : TypeId} (hx : evA N ⟨t, h⟩ x = .d (.v (.int k a))) (hy : evA N ⟨t, h⟩ y = .d (.v (.int k2 b))) (hb : 0 ≤ b) : Pure1 P N ⟨some d, .binOp .shr xt x y yt, ty, pos, aft, g⟩ ⟨t, h⟩ (.d (.v (.int k (shrK k a b)))) :=
  pu_bin (by rw [hx]; rfl) (by rw [hy]; rfl) fun w => by simp [eqGuard, binOp, Op.shift, shrK, Int.not_lt.2 hb]
end
end Go.Proofs.YtjjelnpehgoagaaGreatDoor
namespace Go.Proofs.YtjjelnpehgoagaaGreatDoor
open Go.RowKit
set_option linter.unusedVariables false
set_option maxRecDepth 100000
section
variable {P : Program} {T : Tab} {L N : Nat} {ops : Array Oper} {E : Env} {K : List (Nat × Cls) → AS → Prop} {i : Nat} {is : List Nat} {t : Nat → AV} {h h' : Heap} {d : Tmp} {dst : Option Tmp} {op : Op} {ty : TypeId} {pos : String} {aft : Array Edge} {g : Option (Nat × Bool)} {Q : AExit → AS → Prop} {σ : AS} {x y : Operand}

theorem pu_cap_nil (hT : TOk P T) {st_ e : TypeId} {ti : TI} (hx : evA N ⟨t, h⟩ x = .d (.v (.slice none 0 0))) (h1 : T st_ = some ti) (h2 : ti.desc = .slice e) :
    Pure1 P N ⟨some d, .call ⟨.builtin .cap, #[x], #[st_]⟩, ty, pos, aft, g⟩ ⟨t, h⟩ (.d (.v (.int .i64 0))) := fun w F μ hh ρ st => by
  have hr := rep_v (by have := st x (by simp [Op.operands, Call.operands]); rw [hx] at this; exact this)
  have hu := (hT _ _ h1).1
  rw [h2] at hu
  exact ⟨.int .i64 0, by simp [execOp, resolve, invoke, builtin, hr, Builtin.cap_, run_underlying hu, goInt], .d _ _ (.v _ rfl)⟩
theorem pu_sub_nil (hT : TOk P T) {xt e : TypeId} {ti ei : TI} {o : Operand} {k : IntKind} (hx : evA N ⟨t, h⟩ x = .d (.v (.slice none 0 0))) (ho : evA N ⟨t, h⟩ o = .d (.v (.int k 0))) (h1 : T xt = some ti) (h2 : ti.desc = .slice e) (h3 : T e = some ei) :
    Pure1 P N ⟨some d, .slice xt x none (some o) none, ty, pos, aft, g⟩ ⟨t, h⟩ (.d (.v (.slice none 0 0))) := fun w F μ hh ρ st => by
  have hr := rep_v (by have := st x (by simp [Op.operands]); rw [hx] at this; exact this)
  have hr2 := rep_v (by have := st o (by simp [Op.operands]); rw [ho] at this; exact this)
  have hu := (hT _ _ h1).1
  rw [h2] at hu
  exact ⟨.slice none 0 0, by simp [execOp, Instr.sliceAt, Instr.slice, Instr.sliceBounds, Instr.sliceBound, hr, hr2, asIntOf, run_underlying hu, run_sizeOf hT h3], .d _ _ (.v _ rfl)⟩
theorem run_append_cnt (w : World) (t u ty e : TypeId) (i : TypeInfo) (z : Value) (ht : P.underlying t = some (.slice e)) (hu : P.underlying u = some (.int .i64)) (hi : P.info? e = some i) (hz : i.zero = some z) (n : Nat) (h0 : 0 < n) (hs : 0 < i.size) (h63 : (n : Int) ≤ 9223372036854775807) (h48 : n * i.bytes ≤ 281474976710656) :
    (Builtin.append_ #[t, u] ty #[.slice none 0 0, .int .i64 n]).run P w = .ok (.slice (some ⟨w.heap.size, 0, none⟩) n (grownCap w n 0 e)) (w.drew.alloc (.cells (Builtin.zeroCells z.cells n ++ Builtin.zeroCells z.cells (grownCap w n 0 e - n)) e)) := by
  have hn : n ≠ 0 := by omega
  have hsz : i.size ≠ 0 := by omega
  have h63' : ¬ (9223372036854775807 < (n : Int)) := by omega
  have h48' : ¬ (281474976710656 < Builtin.nextslicecap n 0 * i.bytes) := by rw [nextslicecap_zero h0]; omega
  have hw : IntKind.i64.wrap (n : Int) = n := ewrap (by omega) h63
  have hneg : ¬ ((n : Int) < 0) := by omega
  have hb : ¬ (281474976710656 < (n : Int) * (i.bytes : Int)) := by
    have : ((n * i.bytes : Nat) : Int) ≤ 281474976710656 := by omega
    rw [Int.natCast_mul] at this
    omega
  simp [Builtin.append_, run_underlying ht, run_underlying hu, sizeOf, typeInfo, zeroValue, hi, hz, asInt, asIntOf, hw, hneg, hb, hn, hsz, h63', h48', Question.forced, run_firstCells_none, newRow, grownCap]
  intro hm
  rcases Nat.mul_eq_zero.1 hm with hm | hm <;> omega
theorem zero_at (z : Array Value) (n : Nat) {sz q j : Nat} (hz : z.size = sz) (hj : j < sz) (hq : q < n) : (Builtin.zeroCells z n)[q * sz + j]? = z[j]? := by
  subst hz
  have hidx : q * z.size + j < n * z.size := by
    have : (q + 1) * z.size ≤ n * z.size := Nat.mul_le_mul_right _ (by omega)
    rw [Nat.add_mul] at this
    omega
  simp only [Builtin.zeroCells, Array.getElem?_map]
  rw [Array.getElem?_range, if_pos hidx]
  simp only [Option.map_some]
  rw [Nat.mul_comm, Nat.mul_add_mod, Nat.mod_eq_of_lt hj, getElem!_def, Array.getElem?_eq_getElem hj]
theorem ap_cnt {α : Type} (k : Nat) (hT : TOk P T) {bt e u : TypeId} {s : Operand} {a : Int} {ti ei ui : TI} {sz : Nat} {zs : List DV} {c : α → List DV} (z : α) (hb : 0 < a ∧ a.toNat * sz * 64 ≤ 140737488355328) (hs : evA N ⟨t, h⟩ s = .d (.v (.slice none 0 0))) (hx : evA N ⟨t, h⟩ x = .d (.v (.int .i64 a))) (h1 : T bt = some ti) (h2 : ti.desc = .slice e) (h3 : T e = some ei) (h4 : T u = some ui) (h5 : ui.desc = .int .i64) (hsz : ei.size = sz)
    (hz : dvL ei.zero.cells.toList = zs) (hone : oneL ei.zero.cells.toList = true) (hzs : Nat.beq zs.length ei.size = true) (hpos : Nat.blt 0 ei.size = true) (hsb : Nat.ble ei.bytes (ei.size * 64) = true) (hk : h k = .no) (hcz : zs = c z) :
    Heavy1 P N ⟨some d, .call ⟨.builtin .append, #[s, x], #[bt, u]⟩, ty, pos, aft, g⟩ ⟨t, h⟩ (.own k 0 (List.replicate a.toNat z).length) (upd h k (.live [⟨e, ei.size, .data ((List.replicate a.toNat z).map c)⟩])) ∧ ∀ k', h k' ≠ .no → upd h k (.live [⟨e, ei.size, .data ((List.replicate a.toNat z).map c)⟩]) k' = h k' := by
  subst hsz
  obtain ⟨b1, b3⟩ := hb
  have hle := Nat.le_of_ble_eq_true hsb
  have hp := blt_lt hpos
  have e1 : a.toNat * ei.bytes ≤ a.toNat * ei.size * 64 := by rw [Nat.mul_assoc]; exact Nat.mul_le_mul_left _ hle
  have e2 : a.toNat ≤ a.toNat * ei.size := Nat.le_mul_of_pos_right _ (by omega)
  obtain ⟨n, rfl⟩ : ∃ n : Nat, a = n := ⟨a.toNat, by omega⟩
  simp only [Int.toNat_natCast] at *
  refine ⟨fun E F μ w ρ H st => ?_, ext_upd hk⟩
  have f1 := rep_v (by have := st s (by simp [Op.operands, Call.operands]); rw [hs] at this; exact this)
  have f2 := rep_v (by have := st x (by simp [Op.operands, Call.operands]); rw [hx] at this; exact this)
  have u1 := (hT _ _ h1).1
  rw [h2] at u1
  have u2 := (hT _ _ h4).1
  rw [h5] at u2
  obtain ⟨_, ie, hie, hisz, hbb, hzz⟩ := hT _ _ h3
  have hrun := run_append_cnt (P := P) w bt u ty e ie ei.zero u1 u2 hie hzz n (by omega) (by omega) (by omega) (by rw [hbb]; omega)
  have e3 : (execOp ρ ⟨some d, .call ⟨.builtin .append, #[s, x], #[bt, u]⟩, ty, pos, aft, g⟩).run P w = .ok (.value (.slice (some ⟨w.heap.size, 0, none⟩) n (grownCap w n 0 e))) (w.drew.alloc (.cells (Builtin.zeroCells ei.zero.cells n ++ Builtin.zeroCells ei.zero.cells (grownCap w n 0 e - n)) e)) := by
    simp [execOp, resolve, invoke, builtin, f1, f2, hrun]
  rw [e3]
  have hlen : ei.zero.cells.size = ei.size := by
    have := Nat.eq_of_beq_eq_true hzs
    rw [← hz, dvL_map] at this
    simpa using this
  have hge := grownCap_ge w n 0 e
  have hcm := grownCap_le_maxLen w n 0 e (by unfold maxLen; omega)
  obtain ⟨H1, V1⟩ := H.drew
  obtain ⟨F', μ', q1, q2, q3⟩ := new_row (w := w.drew) (cc := .data (List.replicate n zs)) (et := e) (sz := ei.size) (c := grownCap w n 0 e) (out := Builtin.zeroCells ei.zero.cells n ++ Builtin.zeroCells ei.zero.cells (grownCap w n 0 e - n)) H1 hk (by
      simp only [Array.size_append, size_zeroCells, hlen, ← Nat.add_mul]; congr 1; omega) (by simpa [Cells.len] using hge) hcm fun i cells hi => by
    simp only [Cells.get] at hi
    obtain ⟨q, hq, rfl⟩ := Option.map_eq_some_iff.1 hi
    have hil : i < n := by have := (List.getElem?_eq_some_iff.1 hq).1; simpa using this
    have hqz : q = zs := by have := List.mem_of_getElem? hq; exact (List.mem_replicate.1 this).2
    subst hqz
    refine ⟨by rw [List.length_map]; exact Nat.eq_of_beq_eq_true hzs, fun j a hj => ?_⟩
    rw [← hz, dvL_map, List.map_map, List.getElem?_map, Array.getElem?_toList] at hj
    obtain ⟨v, hv, rfl⟩ := Option.map_eq_some_iff.1 hj
    have hjl : j < ei.size := by have := (Array.getElem?_eq_some_iff.1 hv).1; omega
    refine ⟨v, ?_, .d _ _ (zeroCell_rep (oneL_get hone v (by simpa using Array.mem_of_getElem? hv)))⟩
    rw [Array.getElem?_append_left (by
      rw [size_zeroCells, hlen]
      have : (i + 1) * ei.size ≤ n * ei.size := Nat.mul_le_mul_right _ (by omega)
      rw [Nat.add_mul] at this
      omega), zero_at _ _ hlen hjl hil, hv]
  have h5 : (Cells.data (List.replicate n zs)).len = n := by simp [Cells.len]
  rw [h5, hcz, ← List.map_replicate] at q3
  rw [hcz, ← List.map_replicate] at q1 q2
  rw [List.length_replicate]
  exact ⟨F', μ', q1, V1.trans q2, q3⟩
theorem HInv.over_ {F : Nat → Prop} {μ : Places} {w : World} (H : HInv E F μ h w) {k k2 : Nat} {o o' : AObj} (hk : h k = .live [o]) (hk2 : h k2 = .no) (hty : o'.ty = o.ty) (hsz : o'.sz = o.sz) (hcs : ∀ i cells, o'.cs.get i = some cells → o.cs.get i = some cells) (hz : o.cs.len = 0 → o'.cs.len = 0) :
    HInv E F (updP μ k2 0 (μ k 0)) (upd (upd h k .dead) k2 (.live [o'])) w ∧ Evo w F μ h w F (updP μ k2 0 (μ k 0)) (upd (upd h k .dead) k2 (.live [o'])) := by
  have hne : k ≠ k2 := fun e => by rw [e, hk2] at hk; cases hk
  have hlo : lv h k 0 = some o := lv_of hk
  have look : ∀ p f o1, lv (upd (upd h k .dead) k2 (.live [o'])) p f = some o1 → (p = k2 ∧ f = 0 ∧ o1 = o') ∨ (p ≠ k2 ∧ p ≠ k ∧ lv h p f = some o1) := fun p f o1 hl => by
    by_cases e : p = k2
    · subst e
      rw [lv_upd_same] at hl
      cases f with
      | zero => simp at hl; exact .inl ⟨rfl, rfl, hl.symm⟩
      | succ n => simp at hl
    · rw [lv_upd_ne _ _ _ e] at hl
      by_cases e2 : p = k
      · subst e2; simp [lv, upd_same] at hl
      · rw [lv_upd_ne _ _ _ e2] at hl; exact .inr ⟨e, e2, hl⟩
  have mu : ∀ {p f}, p ≠ k2 → updP μ k2 0 (μ k 0) p f = μ p f := fun e => updP_ne _ _ (fun ⟨e', _⟩ => e e')
  have V : Evo w F μ h w F (updP μ k2 0 (μ k 0)) (upd (upd h k .dead) k2 (.live [o'])) := by
    refine ⟨fun _ _ => rfl, fun _ hb => hb, fun p hb => ?_, fun p f o1 hb ho1 => ?_⟩
    · by_cases e : p = k2
      · rw [e, hk2] at hb; exact absurd rfl hb
      · rw [upd_ne _ _ e]
        by_cases e2 : p = k
        · rw [e2, upd_same]; simp
        · rw [upd_ne _ _ e2]; exact hb
    · rcases look p f o1 ho1 with ⟨e, _, _⟩ | ⟨e, e2, hl⟩
      · rw [e, hk2] at hb; exact absurd rfl hb
      · exact ⟨o1, hl, .inr ⟨rfl, rfl, mu e, fun b cur _ hc => ⟨cur, hc, rfl⟩⟩⟩
  have real : ∀ {p f o1 b}, lv (upd (upd h k .dead) k2 (.live [o'])) p f = some o1 → updP μ k2 0 (μ k 0) p f = some b → ∃ p' o2, lv h p' f = some o2 ∧ μ p' f = some b ∧ (p' = if p = k2 then k else p) := fun {p f o1 b} hl hm => by
    rcases look p f o1 hl with ⟨rfl, rfl, _⟩ | ⟨e, e2, hl⟩
    · rw [updP_same] at hm
      exact ⟨k, o, hlo, hm, by simp⟩
    · rw [mu e] at hm
      exact ⟨p, o1, hl, hm, by simp [e]⟩
  refine ⟨⟨fun p f o1 hl => ?_, fun p1 f1 o1 p2 f2 o2 b l1 l2 m1 m2 => ?_, fun p f o1 b hl hm => ?_, fun p f o1 b hl hm => ?_, H.fz, H.fsrc, H.ev.trans V, H.os, H.tape, H.output, H.size, H.keep⟩, V⟩
  · rcases look p f o1 hl with ⟨rfl, rfl, rfl⟩ | ⟨e, e2, hl⟩
    · rcases H.ob k 0 o hlo with ⟨g1, g2⟩ | ⟨b, cur, g1, g2, g3⟩
      · exact .inl ⟨by rw [updP_same]; exact g1, hz g2⟩
      · refine .inr ⟨b, cur, by rw [updP_same]; exact g1, by rw [hty]; exact g2, fun i cells hi => ?_⟩
        obtain ⟨g4, g5⟩ := g3 i cells (hcs i cells hi)
        refine ⟨g4.trans hsz.symm, fun j c hj => ?_⟩
        obtain ⟨u, hu, hr⟩ := g5 j c hj
        exact ⟨u, by rw [hsz]; exact hu, hr.evo V⟩
    · rw [mu e]; exact (H.ob p f o1 hl).evo V fun _ _ => rfl
  · obtain ⟨q1, _, x1, y1, z1⟩ := real l1 m1
    obtain ⟨q2, _, x2, y2, z2⟩ := real l2 m2
    have := H.inj _ _ _ _ _ _ b x1 x2 y1 y2
    refine ⟨?_, this.2⟩
    rcases look _ _ _ l1 with ⟨e1, _, _⟩ | ⟨e1, e1', _⟩ <;> rcases look _ _ _ l2 with ⟨e2, _, _⟩ | ⟨e2, e2', _⟩
    · rw [e1, e2]
    · rw [z1, z2, if_pos e1, if_neg e2] at this; exact absurd this.1.symm e2'
    · rw [z1, z2, if_neg e1, if_pos e2] at this; exact absurd this.1 e1'
    · rw [z1, z2, if_neg e1, if_neg e2] at this; exact this.1
  · obtain ⟨q1, _, x1, y1, _⟩ := real hl hm
    exact H.sep _ _ _ b x1 y1
  · obtain ⟨q1, _, x1, y1, _⟩ := real hl hm
    exact H.src _ _ _ b x1 y1
theorem ow_sub {α : Type} (k2 : Nat) (hT : TOk P T) {xt e bt : TypeId} {k n sz : Nat} {c : α → List DV} {es : List α} {ti ei : TI} {b : Int} {o : Operand} {kk : IntKind} (hb : 0 ≤ b ∧ b ≤ es.length) (hx : evA N ⟨t, h⟩ x = .own k 0 n) (ho : evA N ⟨t, h⟩ o = .d (.v (.int kk b))) (h1 : T xt = some ti) (h2 : ti.desc = .slice e) (h3 : T e = some ei) (hk : h k = .live [⟨bt, sz, .data (es.map c)⟩]) (hn : n = es.length) (hk2 : h k2 = .no) :
    Heavy1 P N ⟨some d, .slice xt x none (some o) none, ty, pos, aft, g⟩ ⟨t, h⟩ (.own k2 0 (es.take b.toNat).length) (upd (upd h k .dead) k2 (.live [⟨bt, sz, .data ((es.take b.toNat).map c)⟩])) := fun E F μ w ρ H st => by
  subst hn
  have hr := st x (by simp [Op.operands])
  rw [hx] at hr
  have f2 := rep_v (by have := st o (by simp [Op.operands]); rw [ho] at this; exact this)
  have hu := (hT _ _ h1).1
  rw [h2] at hu
  have hlo : lv h k 0 = some (⟨bt, sz, .data (es.map c)⟩ : AObj) := lv_of hk
  obtain ⟨q0, q1⟩ := hb
  generalize hvs : ρ x = vs at hr
  cases hr with | own _ _ _ _ g1 hbn hv =>
  have hlen : (es.take b.toNat).length = b.toNat := by rw [List.length_take]; omega
  obtain ⟨H', V⟩ := H.over_ (k2 := k2) (o' := ⟨bt, sz, .data ((es.take b.toNat).map c)⟩) hk hk2 rfl rfl (fun i cells hi => by
    simp only [Cells.get] at hi ⊢
    obtain ⟨e1, he1, rfl⟩ := Option.map_eq_some_iff.1 hi
    rw [List.getElem?_map] at he1
    obtain ⟨v, hv1, rfl⟩ := Option.map_eq_some_iff.1 he1
    rw [List.getElem?_take] at hv1
    split at hv1
    · rw [List.getElem?_map, hv1]; rfl
    · cases hv1) (fun hz => by simp [Cells.len] at hz ⊢; simp [hz])
  rcases (hv _ hlo).2 rows_len with ⟨m1, m2, m3⟩ | ⟨bl, cc, cur, m1, m2, m3, m4, m5, m6⟩
  · subst m3
    have hb0 : b = 0 := by omega
    subst hb0
    have e3 : (execOp ρ ⟨some d, .slice xt x none (some o) none, ty, pos, aft, g⟩).run P w = .ok (.value (.slice none 0 0)) w := by
      simp [execOp, Instr.sliceAt, Instr.slice, Instr.sliceBounds, Instr.sliceBound, hvs, f2, asIntOf, run_underlying hu, run_sizeOf hT h3]
    rw [e3]
    refine ⟨F, _, H', V, .own _ _ _ _ rfl (by rw [upd_same]; simp) fun o1 ho1 => ?_⟩
    rw [lv_upd_same] at ho1
    simp at ho1
    subst ho1
    exact ⟨by simp [Cells.len], fun _ => .inl ⟨by rw [updP_same]; exact m1, by simp, rfl⟩⟩
  · subst m2
    have e3 : (execOp ρ ⟨some d, .slice xt x none (some o) none, ty, pos, aft, g⟩).run P w = .ok (.value (.slice (some ⟨bl, 0, none⟩) b.toNat cc)) w := by
      have q2 : b ≤ (cc : Int) := by omega
      simp [execOp, Instr.sliceAt, Instr.slice, Instr.sliceBounds, Instr.sliceBound, hvs, f2, asIntOf, run_underlying hu, run_sizeOf hT h3, q0, q2, addr_add]
    rw [e3]
    refine ⟨F, _, H', V, .own _ _ _ _ rfl (by rw [upd_same]; simp) fun o1 ho1 => ?_⟩
    rw [lv_upd_same] at ho1
    simp at ho1
    subst ho1
    exact ⟨by simp [Cells.len], fun _ => .inr ⟨bl, cc, cur, by rw [updP_same]; exact m1, by rw [hlen], m3, m4, by omega, m6⟩⟩
theorem fnc_pad {f : FuncId} {hin hout : List Slot} {as : List AV} {r : AV} (n : Nat) (hF : FnC P f hin as hout r) : FnC P f (hin ++ List.replicate n .no) as hout r := by
  have e : lks (hin ++ List.replicate n .no) = lks hin := by
    funext p
    unfold lks
    simp only [List.getD_eq_getElem?_getD]
    rcases Nat.lt_or_ge p hin.length with h | h
    · rw [List.getElem?_append_left h]
    · rw [List.getElem?_append_right h, List.getElem?_eq_none h, List.getElem?_replicate]
      split <;> rfl
  refine ⟨hF.c, fun w F μ vs gl H hs hr => ?_⟩
  rw [e] at H hr
  have := hF.g w F μ vs gl H hs hr
  rw [e]
  exact this
theorem retM_ {fn : Func} {rs : List ResultVar} {as : List AV} {r : AV} {hout : List Slot} (m : Nat) (ks : List Nat) (hrs : fn.results.toList = rs)
    (R : ResR T N ⟨t, h⟩ rs as := by repeat (first | exact ResR.nil | apply ResR.tmp (a := .d _) rfl | apply ResR.tmp (a := .own _ _ _) rfl | apply ResR.tmp (a := .agg _) rfl | apply ResR.tmp (a := .ref _) rfl | apply ResR.tmp (a := .ptr _ _ _ _ _) rfl | apply ResR.cell1 rfl rfl rfl rfl (by first | rfl) (by first | rfl) rfl | apply ResR.cellN rfl rfl rfl rfl (by first | rfl) (by first | rfl) (by repeat (first | exact Seg.z _ | apply Seg.t | apply Seg.d))))
    (hB : Abv h 300 := by repeat (first | exact abv_nil _ | exact abv_lks rfl | refine abv_upd ?_ rfl)) (hnd : ks.Nodup := by decide) (hlt : ∀ k ∈ ks, k < 300 := by decide) (hid : ∀ p, p < m → nameL ks 300 p = p := by decide)
    (hk : AtK (nameL ks 300) h ks hout := by repeat (first | exact AtK.nil | refine AtK.data_ (by exact rfl) ?_ | (apply AtK.cons rfl; (first | exact RenS.no | exact RenS.dead | exact RenS.data _ _ _ | exact RenS.nest rfl | exact RenS.fam | (apply RenS.box; (repeat (first | exact RenRL.nil | apply RenRL.cons | exact RenR.d _ | apply RenR.agg | apply RenR.tup | exact RenR.own _ _ _ _ rfl | exact RenR.ptr _ _ _ _ _ _ rfl | exact RenR.ref _ | apply RenR.fn | exact RenR.dead))) | exact RenS.gen _))))
    (e : RenR (nameL ks 300) r (resA as) := by repeat (first | exact RenRL.nil | apply RenRL.cons | exact RenR.d _ | apply RenR.agg | apply RenR.tup | exact RenR.own _ _ _ _ rfl | exact RenR.of_own (by first | rfl | (simp; done) | omega | (simp; omega)) rfl | exact RenR.ptr _ _ _ _ _ _ rfl | exact RenR.ref _ | apply RenR.fn | exact RenR.dead)) : RetOk T N fn m hout r ⟨t, h⟩ :=
  ⟨rs, as, _, ks, 300, hrs, R, rfl, hnd, hlt, hid, hB, hk, e.eq_⟩
end
end Go.Proofs.YtjjelnpehgoagaaGreatDoor
namespace Go.Proofs.YtjjelnpehgoagaaGreatDoor
open Go.RowKit
set_option linter.unusedVariables false
set_option maxRecDepth 100000
section
variable {P : Program} {T : Tab} {L N : Nat} {ops : Array Oper} {E : Env} {K : List (Nat × Cls) → AS → Prop} {i : Nat} {is : List Nat} {t : Nat → AV} {h h' : Heap} {d : Tmp} {dst : Option Tmp} {op : Op} {ty : TypeId} {pos : String} {aft : Array Edge} {g : Option (Nat × Bool)} {Q : AExit → AS → Prop} {σ : AS} {c : Code} {x y : Operand}
inductive PreL2 : List AV → List AV → Prop
  | nil : PreL2 [] []
  | same (a : AV) {as bs : List AV} (k : PreL2 as bs) : PreL2 (a :: as) (a :: bs)
  | pre {cs ds : List DV} {as bs : List AV} (hp : Pre cs ds) (k : PreL2 as bs) : PreL2 (.ref cs :: as) (.ref ds :: bs)
theorem PreL2.spec {as bs : List AV} (p : PreL2 as bs) : as.length = bs.length ∧ ∀ (i : Nat) b, bs[i]? = some b → ∃ a, as[i]? = some a ∧ (a = b ∨ ∃ cs ds, a = .ref cs ∧ b = .ref ds ∧ Pre cs ds) := by
  induction p with
  | nil => exact ⟨rfl, fun i b h => by simp at h⟩
  | same a k ih =>
    refine ⟨by simp [ih.1], fun i b h => ?_⟩
    cases i with
    | zero => simp at h; exact ⟨a, by simp, .inl h⟩
    | succ i => simpa using ih.2 i b (by simpa using h)
  | @pre cs ds as bs hp k ih =>
    refine ⟨by simp [ih.1], fun i b h => ?_⟩
    cases i with
    | zero => simp at h; exact ⟨.ref cs, by simp, .inr ⟨cs, ds, rfl, h.symm, hp⟩⟩
    | succ i => simpa using ih.2 i b (by simpa using h)
theorem pa {r : DV} (k : RA L P N ops is Q ⟨updA t d (.d r), h⟩) (ho : ops[i]? = some ⟨some d, .assign x, ty, pos, aft, none⟩ := by exact rfl) (hd : Nat.blt d N = true := by exact rfl) (hx : evA N ⟨t, h⟩ x = .d r := by exact rfl) : RA L P N ops (i :: is) Q ⟨t, h⟩ := rp ho w0 hd (pu_assign hx) k
theorem tpa {r : DV} (k : RT P N ops is (fun l σ' => K ((i, .pu) :: l) σ') ⟨updA t d (.d r), h⟩) (ho : ops[i]? = some ⟨some d, .assign x, ty, pos, aft, none⟩ := by exact rfl) (hd : Nat.blt d N = true := by exact rfl) (hx : evA N ⟨t, h⟩ x = .d r := by exact rfl) : RT P N ops (i :: is) K ⟨t, h⟩ := rt_p ho w0 hd (pu_assign hx) k
theorem pm {r : DV} (k : RA L P N ops is Q ⟨updA t d (.d r), h⟩) (ho : ops[i]? = some ⟨some d, .move x, ty, pos, aft, none⟩ := by exact rfl) (hd : Nat.blt d N = true := by exact rfl) (hx : evA N ⟨t, h⟩ x = .d r := by exact rfl) : RA L P N ops (i :: is) Q ⟨t, h⟩ := rp ho w0 hd (pu_move hx) k
theorem tpm {r : DV} (k : RT P N ops is (fun l σ' => K ((i, .pu) :: l) σ') ⟨updA t d (.d r), h⟩) (ho : ops[i]? = some ⟨some d, .move x, ty, pos, aft, none⟩ := by exact rfl) (hd : Nat.blt d N = true := by exact rfl) (hx : evA N ⟨t, h⟩ x = .d r := by exact rfl) : RT P N ops (i :: is) K ⟨t, h⟩ := rt_p ho w0 hd (pu_move hx) k
theorem pkt {z : Operand} {r : DV} (k : RA L P N ops is Q ⟨updA t d (.d r), h⟩) (ho : ops[i]? = some ⟨some d, .pick z x y, ty, pos, aft, none⟩ := by exact rfl) (hd : Nat.blt d N = true := by exact rfl) (hz : evA N ⟨t, h⟩ z = .d (.v (.bool true)) := by exact rfl) (hx : evA N ⟨t, h⟩ x = .d r := by exact rfl) : RA L P N ops (i :: is) Q ⟨t, h⟩ := rp ho w0 hd (pu_pick_t hz hx) k
theorem tpkt {z : Operand} {r : DV} (k : RT P N ops is (fun l σ' => K ((i, .pu) :: l) σ') ⟨updA t d (.d r), h⟩) (ho : ops[i]? = some ⟨some d, .pick z x y, ty, pos, aft, none⟩ := by exact rfl) (hd : Nat.blt d N = true := by exact rfl) (hz : evA N ⟨t, h⟩ z = .d (.v (.bool true)) := by exact rfl) (hx : evA N ⟨t, h⟩ x = .d r := by exact rfl) : RT P N ops (i :: is) K ⟨t, h⟩ := rt_p ho w0 hd (pu_pick_t hz hx) k
theorem pkf {z : Operand} {r : DV} (k : RA L P N ops is Q ⟨updA t d (.d r), h⟩) (ho : ops[i]? = some ⟨some d, .pick z x y, ty, pos, aft, none⟩ := by exact rfl) (hd : Nat.blt d N = true := by exact rfl) (hz : evA N ⟨t, h⟩ z = .d (.v (.bool false)) := by exact rfl) (hx : evA N ⟨t, h⟩ y = .d r := by exact rfl) : RA L P N ops (i :: is) Q ⟨t, h⟩ := rp ho w0 hd (pu_pick_f hz hx) k
theorem tpkf {z : Operand} {r : DV} (k : RT P N ops is (fun l σ' => K ((i, .pu) :: l) σ') ⟨updA t d (.d r), h⟩) (ho : ops[i]? = some ⟨some d, .pick z x y, ty, pos, aft, none⟩ := by exact rfl) (hd : Nat.blt d N = true := by exact rfl) (hz : evA N ⟨t, h⟩ z = .d (.v (.bool false)) := by exact rfl) (hx : evA N ⟨t, h⟩ y = .d r := by exact rfl) : RT P N ops (i :: is) K ⟨t, h⟩ := rt_p ho w0 hd (pu_pick_f hz hx) k
theorem fa (hT : TOk P T) {s bt : TypeId} {q kk e sz : Nat} {cells : List AV} {ti fi : TI} {fs : Array Field} {fld : Field} (k : RA L P N ops is Q ⟨updA t d (.ptr kk 0 1 0 (e + fld.offset)), h⟩) (ho : ops[i]? = some ⟨some d, .fieldAddr s x q, ty, pos, aft, none⟩ := by exact rfl) (hd : Nat.blt d N = true := by exact rfl) (hx : evA N ⟨t, h⟩ x = .ptr kk 0 1 0 e := by exact rfl) (h1 : T s = some ti := by exact rfl) (h2 : ti.desc = .struct fs := by exact rfl) (h3 : fs[q]? = some fld := by exact rfl) (h4 : T fld.type = some fi := by exact rfl) (h5 : Nat.beq fi.size 0 = false := by exact rfl) (hk : h kk = .live [⟨bt, sz, .av [cells]⟩] := by exact rfl) : RA L P N ops (i :: is) Q ⟨t, h⟩ := rl ho w0 hd (bx_fa hT hx h1 h2 h3 h4 h5 hk) k
theorem ld (hT : TOk P T) {lt bt : TypeId} {kk e sz : Nat} {cells : List AV} {c0 : AV} {ti : TI} (k : RA L P N ops is Q ⟨updA t d c0, h⟩) (ho : ops[i]? = some ⟨some d, .load lt x, ty, pos, aft, none⟩ := by exact rfl) (hd : Nat.blt d N = true := by exact rfl) (hx : evA N ⟨t, h⟩ x = .ptr kk 0 1 0 e := by exact rfl) (h1 : T lt = some ti := by exact rfl) (h2 : isRow ti.desc = false := by exact rfl) (hk : h kk = .live [⟨bt, sz, .av [cells]⟩] := by exact rfl) (hc : cells[e]? = some c0 := by exact rfl) : RA L P N ops (i :: is) Q ⟨t, h⟩ := rl ho w0 hd (bx_ld1 hT hx h1 h2 hk hc) k
theorem fr (hT : TOk P T) {s : TypeId} {q : Nat} {cs out : List DV} {ti fi : TI} {fs : Array Field} {fld : Field} (k : RA L P N ops is Q ⟨updA t d (.ref out), h⟩) (ho : ops[i]? = some ⟨some d, .fieldAddr s x q, ty, pos, aft, none⟩ := by exact rfl) (hd : Nat.blt d N = true := by exact rfl) (hx : evA N ⟨t, h⟩ x = .ref cs := by exact rfl) (h1 : T s = some ti := by exact rfl) (h2 : ti.desc = .struct fs := by exact rfl) (h3 : fs[q]? = some fld := by exact rfl) (h4 : T fld.type = some fi := by exact rfl) (h5 : Nat.beq fi.size 0 = false := by exact rfl) (hp : Drp fld.offset cs out := by repeat (first | exact Drp.z _ | apply Drp.d)) : RA L P N ops (i :: is) Q ⟨t, h⟩ := rp ho w0 hd (pu_fieldAddr_ref hT hx h1 h2 h3 h4 h5 hp) k
theorem lr (hT : TOk P T) {lt : TypeId} {cs : List DV} {c0 : DV} {ti : TI} (k : RA L P N ops is Q ⟨updA t d (.d c0), h⟩) (ho : ops[i]? = some ⟨some d, .load lt x, ty, pos, aft, none⟩ := by exact rfl) (hd : Nat.blt d N = true := by exact rfl) (hx : evA N ⟨t, h⟩ x = .ref cs := by exact rfl) (h1 : T lt = some ti := by exact rfl) (h2 : isRow ti.desc = false := by exact rfl) (hc : cs[0]? = some c0 := by exact rfl) : RA L P N ops (i :: is) Q ⟨t, h⟩ := rp ho w0 hd (pu_load_ref1 hT hx h1 h2 hc) k
theorem tlr (hT : TOk P T) {lt : TypeId} {cs : List DV} {c0 : DV} {ti : TI} (k : RT P N ops is (fun l σ' => K ((i, .pu) :: l) σ') ⟨updA t d (.d c0), h⟩) (ho : ops[i]? = some ⟨some d, .load lt x, ty, pos, aft, none⟩ := by exact rfl) (hd : Nat.blt d N = true := by exact rfl) (hx : evA N ⟨t, h⟩ x = .ref cs := by exact rfl) (h1 : T lt = some ti := by exact rfl) (h2 : isRow ti.desc = false := by exact rfl) (hc : cs[0]? = some c0 := by exact rfl) : RT P N ops (i :: is) K ⟨t, h⟩ := rt_p ho w0 hd (pu_load_ref1 hT hx h1 h2 hc) k
theorem pm1 {j u : Nat} {b : Bool} {r : DV} (k : RA L P N ops is Q ⟨updA t d (.d r), h⟩) (ho : ops[i]? = some ⟨some d, .move x, ty, pos, aft, some (j, b)⟩ := by exact rfl) (hj : (ops[j]?).bind (·.dst) = some u := by exact rfl) (hu : Nat.blt u N = true := by exact rfl) (hb : t u = .d (.v (.bool b)) := by exact rfl) (hd : Nat.blt d N = true := by exact rfl) (hx : evA N ⟨t, h⟩ x = .d r := by exact rfl) : RA L P N ops (i :: is) Q ⟨t, h⟩ := rp ho (w1 hj hu hb) hd (pu_move hx) k
theorem tpm1 {j u : Nat} {b : Bool} {r : DV} (k : RT P N ops is (fun l σ' => K ((i, .pu) :: l) σ') ⟨updA t d (.d r), h⟩) (ho : ops[i]? = some ⟨some d, .move x, ty, pos, aft, some (j, b)⟩ := by exact rfl) (hj : (ops[j]?).bind (·.dst) = some u := by exact rfl) (hu : Nat.blt u N = true := by exact rfl) (hb : t u = .d (.v (.bool b)) := by exact rfl) (hd : Nat.blt d N = true := by exact rfl) (hx : evA N ⟨t, h⟩ x = .d r := by exact rfl) : RT P N ops (i :: is) K ⟨t, h⟩ := rt_p ho (w1 hj hu hb) hd (pu_move hx) k
theorem pkt1 {j u : Nat} {b : Bool} {z : Operand} {r : DV} (k : RA L P N ops is Q ⟨updA t d (.d r), h⟩) (ho : ops[i]? = some ⟨some d, .pick z x y, ty, pos, aft, some (j, b)⟩ := by exact rfl) (hj : (ops[j]?).bind (·.dst) = some u := by exact rfl) (hu : Nat.blt u N = true := by exact rfl) (hb : t u = .d (.v (.bool b)) := by exact rfl) (hd : Nat.blt d N = true := by exact rfl) (hz : evA N ⟨t, h⟩ z = .d (.v (.bool true)) := by exact rfl) (hx : evA N ⟨t, h⟩ x = .d r := by exact rfl) : RA L P N ops (i :: is) Q ⟨t, h⟩ := rp ho (w1 hj hu hb) hd (pu_pick_t hz hx) k
theorem pkf1 {j u : Nat} {b : Bool} {z : Operand} {r : DV} (k : RA L P N ops is Q ⟨updA t d (.d r), h⟩) (ho : ops[i]? = some ⟨some d, .pick z x y, ty, pos, aft, some (j, b)⟩ := by exact rfl) (hj : (ops[j]?).bind (·.dst) = some u := by exact rfl) (hu : Nat.blt u N = true := by exact rfl) (hb : t u = .d (.v (.bool b)) := by exact rfl) (hd : Nat.blt d N = true := by exact rfl) (hz : evA N ⟨t, h⟩ z = .d (.v (.bool false)) := by exact rfl) (hx : evA N ⟨t, h⟩ y = .d r := by exact rfl) : RA L P N ops (i :: is) Q ⟨t, h⟩ := rp ho (w1 hj hu hb) hd (pu_pick_f hz hx) k
theorem fa1 {j u : Nat} {b : Bool} (hT : TOk P T) {s bt : TypeId} {q kk e sz : Nat} {cells : List AV} {ti fi : TI} {fs : Array Field} {fld : Field} (k : RA L P N ops is Q ⟨updA t d (.ptr kk 0 1 0 (e + fld.offset)), h⟩) (ho : ops[i]? = some ⟨some d, .fieldAddr s x q, ty, pos, aft, some (j, b)⟩ := by exact rfl) (hj : (ops[j]?).bind (·.dst) = some u := by exact rfl) (hu : Nat.blt u N = true := by exact rfl) (hb : t u = .d (.v (.bool b)) := by exact rfl) (hd : Nat.blt d N = true := by exact rfl) (hx : evA N ⟨t, h⟩ x = .ptr kk 0 1 0 e := by exact rfl) (h1 : T s = some ti := by exact rfl) (h2 : ti.desc = .struct fs := by exact rfl) (h3 : fs[q]? = some fld := by exact rfl) (h4 : T fld.type = some fi := by exact rfl) (h5 : Nat.beq fi.size 0 = false := by exact rfl) (hk : h kk = .live [⟨bt, sz, .av [cells]⟩] := by exact rfl) : RA L P N ops (i :: is) Q ⟨t, h⟩ := rl ho (w1 hj hu hb) hd (bx_fa hT hx h1 h2 h3 h4 h5 hk) k
theorem ld1 {j u : Nat} {b : Bool} (hT : TOk P T) {lt bt : TypeId} {kk e sz : Nat} {cells : List AV} {c0 : AV} {ti : TI} (k : RA L P N ops is Q ⟨updA t d c0, h⟩) (ho : ops[i]? = some ⟨some d, .load lt x, ty, pos, aft, some (j, b)⟩ := by exact rfl) (hj : (ops[j]?).bind (·.dst) = some u := by exact rfl) (hu : Nat.blt u N = true := by exact rfl) (hb : t u = .d (.v (.bool b)) := by exact rfl) (hd : Nat.blt d N = true := by exact rfl) (hx : evA N ⟨t, h⟩ x = .ptr kk 0 1 0 e := by exact rfl) (h1 : T lt = some ti := by exact rfl) (h2 : isRow ti.desc = false := by exact rfl) (hk : h kk = .live [⟨bt, sz, .av [cells]⟩] := by exact rfl) (hc : cells[e]? = some c0 := by exact rfl) : RA L P N ops (i :: is) Q ⟨t, h⟩ := rl ho (w1 hj hu hb) hd (bx_ld1 hT hx h1 h2 hk hc) k
theorem k1 {j u : Nat} {want : Bool} (k : RA L P N ops is Q ⟨updA t d (.tup []), h⟩) (ho : ops[i]? = some ⟨some d, op, ty, pos, aft, some (j, want)⟩ := by exact rfl) (hj : (ops[j]?).bind (·.dst) = some u := by exact rfl) (hu : Nat.blt u N = true := by exact rfl) (hb : t u = .d (.v (.bool !want)) ∨ t u = .tup [] := by first | exact .inl rfl | exact .inr rfl) (hd : Nat.blt d N = true := by exact rfl) : RA L P N ops (i :: is) Q ⟨t, h⟩ := rk ho hj hu hb hd k
theorem k2 {j u : Nat} {want : Bool} (k : RT P N ops is (fun l σ' => K ((i, .pu) :: l) σ') ⟨updA t d (.tup []), h⟩) (ho : ops[i]? = some ⟨some d, op, ty, pos, aft, some (j, want)⟩ := by exact rfl) (hj : (ops[j]?).bind (·.dst) = some u := by exact rfl) (hu : Nat.blt u N = true := by exact rfl) (hb : t u = .d (.v (.bool !want)) ∨ t u = .tup [] := by first | exact .inl rfl | exact .inr rfl) (hd : Nat.blt d N = true := by exact rfl) : RT P N ops (i :: is) K ⟨t, h⟩ := rt_skip ho hj hu hb hd k
theorem nx {K' : AS → Prop} (k : K' σ) : RA L P N ops [] (AThen K' Q) σ := ra_nil (then_n k)
theorem sk {K' : AS → Prop} (k : K' σ) : AW L P N .skip (AThen K' Q) σ := aw_skip (then_n k)
theorem sq {id : Nat} {c' : Code} (is : List Nat) (k : RA L P N ops is (AThen (fun σ => AW L P N c' Q σ) Q) σ) (his : List.range ops.size = is := by exact rfl) : AW L P N (.seq (.region id ops false) c') Q σ := aw_seq (aw_regionA his k)
theorem sr {id : Nat} (is : List Nat) (k : RA L P N ops is Q σ) (his : List.range ops.size = is := by exact rfl) : AW L P N (.region id ops false) Q σ := aw_regionA his k
end
end Go.Proofs.YtjjelnpehgoagaaGreatDoor
namespace Go.Proofs.YtjjelnpehgoagaaGreatDoor
open Go.RowKit
set_option linter.unusedVariables false
set_option maxRecDepth 100000

section
variable {E : Env} {F F' : Nat → Prop} {μ μ' : Places} {h h' : Heap} {w : World}
end

section
variable {P : Program} {T : Tab} {L N : Nat} {ops : Array Oper} {E : Env} {K : List (Nat × Cls) → AS → Prop} {i : Nat} {is : List Nat} {t : Nat → AV} {h h' : Heap} {d : Tmp} {dst : Option Tmp} {op : Op} {ty : TypeId} {pos : String} {aft : Array Edge} {g : Option (Nat × Bool)} {Q : AExit → AS → Prop} {σ : AS} {c : Code} {x y : Operand}

inductive NstC (kf i : Nat) : List AV → List DV → Prop
  | nil : NstC kf i [] []
  | v {x : Value} {cs : List AV} {ds : List DV} (q : NstC kf i cs ds) : NstC kf i (.d (.v x) :: cs) (.v x :: ds)
  | sl {n : Nat} {es : List (List DV)} {cs : List AV} {ds : List DV} (hn : n = es.length) (q : NstC kf i cs ds) : NstC kf i (.own kf i n :: cs) (.sl es :: ds)
theorem NstC.eq_ {kf i : Nat} {cs : List AV} {ds : List DV} (q : NstC kf i cs ds) : cs = nestC kf i ds := by
  induction q with
  | nil => rfl
  | v q ih => simp [nestC, ih]
  | sl hn q ih => simp [nestC, ih, hn]
end
end Go.Proofs.YtjjelnpehgoagaaGreatDoor
namespace Go.Proofs.YtjjelnpehgoagaaGreatDoor
open Go.RowKit
set_option linter.unusedVariables false
set_option maxRecDepth 100000
section
variable {E : Env} {F F' : Nat → Prop} {μ μ' : Places} {h h' : Heap} {w : World}
inductive NilC : List AV → List DV → Prop
  | nil : NilC [] []
  | v {x : Value} {cs : List AV} {ds : List DV} (q : NilC cs ds) : NilC (.d (.v x) :: cs) (.v x :: ds)
  | nl {cs : List AV} {ds : List DV} (q : NilC cs ds) : NilC (.d (.v (.slice none 0 0)) :: cs) (.sl [] :: ds)
theorem NilC.spec {cs : List AV} {ds : List DV} (q : NilC cs ds) : cs.length = ds.length ∧ slOf ds = [] ∧ ∀ (j : Nat) x, ds[j]? = some x → (∃ v, x = .v v ∧ cs[j]? = some (.d (.v v))) ∨ (x = .sl [] ∧ cs[j]? = some (.d (.v (.slice none 0 0)))) := by
  induction q with
  | nil => exact ⟨rfl, rfl, fun j x h => by simp at h⟩
  | v q ih =>
    refine ⟨by simp [ih.1], by simpa [slOf] using ih.2.1, fun j x h => ?_⟩
    cases j with
    | zero => simp at h; exact .inl ⟨_, h.symm, rfl⟩
    | succ j => exact ih.2.2 j x (by simpa using h)
  | nl q ih =>
    refine ⟨by simp [ih.1], rfl, fun j x h => ?_⟩
    cases j with
    | zero => simp at h; exact .inr ⟨h.symm, rfl⟩
    | succ j => exact ih.2.2 j x (by simpa using h)
end
section
variable {P : Program} {T : Tab} {L N : Nat} {ops : Array Oper} {E : Env} {K : List (Nat × Cls) → AS → Prop} {i : Nat} {is : List Nat} {t : Nat → AV} {h h' : Heap} {d : Tmp} {dst : Option Tmp} {op : Op} {ty : TypeId} {pos : String} {aft : Array Edge} {g : Option (Nat × Bool)} {Q : AExit → AS → Prop} {σ : AS} {x y : Operand}
end
end Go.Proofs.YtjjelnpehgoagaaGreatDoor
namespace Go.Proofs.YtjjelnpehgoagaaGreatDoor
open Go.RowKit
set_option linter.unusedVariables false
set_option maxRecDepth 100000
inductive FamA (kf m : Nat) : List AV → List AV → Prop
  | nil : FamA kf m [] []
  | own {n n' : Nat} {as bs : List AV} (hn : n = n') (q : FamA kf m as bs) : FamA kf m (.own 0 0 n :: as) (.own kf m n' :: bs)
  | free {a : AV} {as bs : List AV} (hf : a.free = true) (q : FamA kf m as bs) : FamA kf m (a :: as) (a :: bs)
theorem FamA.spec {kf m : Nat} {as bs : List AV} (q : FamA kf m as bs) : as.length = bs.length ∧ ∀ (i : Nat) a b, as[i]? = some a → bs[i]? = some b → (a = b ∧ a.free = true) ∨ ∃ n, a = .own 0 0 n ∧ b = .own kf m n := by
  induction q with
  | nil => exact ⟨rfl, fun i a b h => by simp at h⟩
  | own hn q ih =>
    subst hn
    refine ⟨by simp [ih.1], fun i a b h1 h2 => ?_⟩
    cases i with
    | zero => simp at h1 h2; exact .inr ⟨_, h1.symm, h2.symm⟩
    | succ i => exact ih.2 i a b (by simpa using h1) (by simpa using h2)
  | free hf q ih =>
    refine ⟨by simp [ih.1], fun i a b h1 h2 => ?_⟩
    cases i with
    | zero => simp at h1 h2; subst h1 h2; exact .inl ⟨rfl, hf⟩
    | succ i => exact ih.2 i a b (by simpa using h1) (by simpa using h2)
section
variable {P : Program} {T : Tab} {L N : Nat} {ops : Array Oper} {E : Env} {K : List (Nat × Cls) → AS → Prop} {i : Nat} {is : List Nat} {t : Nat → AV} {h h' : Heap} {d : Tmp} {dst : Option Tmp} {op : Op} {ty : TypeId} {pos : String} {aft : Array Edge} {g : Option (Nat × Bool)} {Q : AExit → AS → Prop} {σ : AS} {x y : Operand}

theorem pbl (hT : TOk P T) {bt : TypeId} {parts : Array (Nat × Operand)} {ti : TI} {fs : Array Field} {pl : List (Nat × Nat)} {C0 C : List AV} (h1 : T bt = some ti) (h2 : ti.desc = .struct fs) (h4 : constL ti.zero.cells.toList = C0)
    (h3 : Plc T fs.toList pl := by repeat (first | exact Plc.nil | apply Plc.cons rfl)) (h5 : Bld (fun i => pl[i]?) (evA N ⟨t, h⟩) C0 parts.toList C := by repeat (first | exact Bld.nil _ | apply Bld.cons (cs := [.d _]) rfl rfl rfl rfl (by repeat (first | exact Spl.z _ | apply Spl.t | apply Spl.d)) | apply Bld.cons (cs := [.own _ _ _]) rfl rfl rfl rfl (by repeat (first | exact Spl.z _ | apply Spl.t | apply Spl.d)) | apply Bld.cons (cs := [.ptr _ _ _ _ _]) rfl rfl rfl rfl (by repeat (first | exact Spl.z _ | apply Spl.t | apply Spl.d)) | apply Bld.cons (cs := [.fn _ _]) rfl rfl rfl rfl (by repeat (first | exact Spl.z _ | apply Spl.t | apply Spl.d)) | apply Bld.cons (cs := _ :: _) rfl rfl rfl rfl (by repeat (first | exact Spl.z _ | apply Spl.t | apply Spl.d)))) : Pure1 P N ⟨some d, .build bt parts, ty, pos, aft, g⟩ ⟨t, h⟩ (.agg C) := pu_build hT h1 h2 h3 h4 h5
end
end Go.Proofs.YtjjelnpehgoagaaGreatDoor
namespace Go.Proofs.YtjjelnpehgoagaaGreatDoor
def nlB : ByteArray := ⟨#[10]⟩
def linesM {α : Type} (f : α → Option ByteArray) : List α → ByteArray → Option ByteArray
  | [], acc => some acc
  | s :: r, acc => (f s).bind fun t => chk (acc.size + (t.size + 1) ≤ 140737488355328) (linesM f r (acc ++ (t ++ nlB)))
end Go.Proofs.YtjjelnpehgoagaaGreatDoor
namespace Go.Proofs.YtjjelnpehgoagaaGreatDoor
def minusB : ByteArray := ⟨#[45]⟩
def digitsOf (s : ByteArray) : ByteArray := ⟨(Lib.trimPrefix s.data.toList minusB.data.toList).toArray⟩
def decOf (n : Int) : ByteArray := ⟨(Lib.itoa n).toArray⟩
def readD (s : ByteArray) : Int × Bool := if (digitsOf s).size < 1 ∨ 18 < (digitsOf s).size then (0, false) else
  match Lib.parseIntB 64 s.data.toList with
  | .ok n => if decOf n = s then (n, true) else (0, false)
  | _ => (0, false)
end Go.Proofs.YtjjelnpehgoagaaGreatDoor
namespace Go.Proofs.YtjjelnpehgoagaaGreatDoor
open Go.RowKit
set_option linter.unusedVariables false
set_option maxRecDepth 100000
set_option maxHeartbeats 2000000
structure Spot_ where
  X : Int
  Y : Int
deriving DecidableEq
structure Shape_ where
  Kind : Int
  A : Spot_
  B : Spot_
  R : Int
  Name : ByteArray
deriving DecidableEq
def cShape_ (x : Shape_) : List DV := [.v (.int .i64 x.Kind), .v (.int .i64 x.A.X), .v (.int .i64 x.A.Y), .v (.int .i64 x.B.X), .v (.int .i64 x.B.Y), .v (.int .i64 x.R), .v (.string x.Name)]
structure Drawing_ where
  Shapes : List Shape_
deriving DecidableEq
def cDrawing_ (x : Drawing_) : List DV := [.sl (List.map cShape_ x.Shapes)]
structure L00Src_ where
  code : List Int
  at_ : Int
  seed : Int
deriving DecidableEq
structure ErrorString_ where
  s : ByteArray
deriving DecidableEq
def s_l01Split_m (p0 : ByteArray) (p1 : Int) : Option (List ByteArray) :=
  ((loopM (S := Int × Int × List ByteArray) (X := Int × List ByteArray) (fun s6 =>
  (if s6.2.1 < (p0.size : Int) then
  ((((strAt p0 s6.2.1).bind fun v7 =>
  (if v7 = p1 then
  (chk (0 ≤ s6.1 ∧ s6.1 ≤ s6.2.1 ∧ s6.2.1 ≤ (p0.size : Int)) (
  (chk ((s6.2.2.length + [p0.extract s6.1.toNat s6.2.1.toNat].length) * 1 * 64 ≤ 140737488355328) (
  some (w64 (s6.2.1 + 1), s6.2.2 ++ [p0.extract s6.1.toNat s6.2.1.toNat])))))
  else
  some (s6.1, s6.2.2))) : Option (Int × List ByteArray)).bind fun v10 =>
  some (.inl (v10.1, w64 (s6.2.1 + 1), v10.2)))
  else
  some (.inr (s6.1, s6.2.2)))) (0, 0, ([] : List ByteArray)) : Option (Int × List ByteArray)).bind fun v11 =>
  (chk (0 ≤ v11.1 ∧ v11.1 ≤ (p0.size : Int) ∧ (p0.size : Int) ≤ (p0.size : Int)) (
  (chk ((v11.2.length + [p0.extract v11.1.toNat (p0.size : Int).toNat].length) * 1 * 64 ≤ 140737488355328) (
  some (v11.2 ++ [p0.extract v11.1.toNat (p0.size : Int).toNat]))))))

def s_l01Digit_m (p0 : Int) : Option Bool :=
  (if 48 ≤ p0 then
  some (decide (p0 ≤ 57))
  else
  some false)

def s_l01Dec_m (p0 : Int) : Option ByteArray :=
  ((loopM (S := Int × List Int) (X := List Int) (fun s6 =>
  (if s6.1 ≠ 0 then
  (((if (s6.1.tmod 10) < 0 then
  some (w64 (-(s6.1.tmod 10)))
  else
  some (s6.1.tmod 10)) : Option Int).bind fun v8 =>
  (chk (([IntKind.u8.wrap (w64 (48 + v8))].length + s6.2.length) * 1 * 64 ≤ 140737488355328) (
  some (.inl (w64 (s6.1.tdiv 10), [IntKind.u8.wrap (w64 (48 + v8))] ++ s6.2)))))
  else
  some (.inr s6.2))) (p0, ([] : List Int)) : Option (List Int)).bind fun v11 =>
  (if (v11.length : Int) = 0 then
  some (⟨#[48]⟩ : ByteArray)
  else
  (if p0 < 0 then
  (chk ((⟨#[45]⟩ : ByteArray).size + (strOfNums v11).size ≤ 9223372036854775807) (
  some ((⟨#[45]⟩ : ByteArray) ++ (strOfNums v11))))
  else
  some (strOfNums v11))))

def s_l01Number_m (p0 : ByteArray) : Option (Int × Bool) :=
  (((((if p0 ≠ (⟨#[]⟩ : ByteArray) then
  ((strAt p0 0).bind fun v1 =>
  some (decide (v1 = 45)))
  else
  some false) : Option Bool).bind fun v2 =>
  (if v2 = true then
  (chk (0 ≤ (1 : Int) ∧ (1 : Int) ≤ (p0.size : Int) ∧ (p0.size : Int) ≤ (p0.size : Int)) (
  some (p0.extract (1 : Int).toNat (p0.size : Int).toNat)))
  else
  some p0)) : Option ByteArray).bind fun v4 =>
  (((if (v4.size : Int) < 1 then
  some true
  else
  some (decide (18 < (v4.size : Int)))) : Option Bool).bind fun v5 =>
  (if v5 = true then
  some (0, false)
  else
  ((loopM (S := Int × Int) (X := Int ⊕ (Int × Bool)) (fun s10 =>
  (if s10.2 < (v4.size : Int) then
  ((strAt v4 s10.2).bind fun v11 =>
  ((s_l01Digit_m v11).bind fun v12 =>
  (if (!v12) = true then
  some (.inr (.inr (0, false)))
  else
  ((strAt v4 s10.2).bind fun v13 =>
  some (.inl (w64 ((w64 (10 * s10.1)) + (w64 (IntKind.u8.wrap (v13 - 48)))), w64 (s10.2 + 1)))))))
  else
  some (.inr (.inl s10.1)))) (0, 0) : Option (Int ⊕ (Int × Bool))).bind fun v14x => orE v14x fun v14 =>
  (((if (v4.size : Int) < (p0.size : Int) then
  some (w64 (-v14))
  else
  some v14) : Option Int).bind fun v15 =>
  ((s_l01Dec_m v15).bind fun v16 =>
  (if v16 ≠ p0 then
  some (0, false)
  else
  some (v15, true))))))))

def s_l25Read_m (p0 : ByteArray) : Option Shape_ :=
  ((s_l01Split_m p0 32).bind fun v1 =>
  ((loopM (S := Int × List Int) (X := List Int) (fun s6 =>
  (if s6.1 < (v1.length : Int) then
  ((atI v1 s6.1).bind fun v7 =>
  ((s_l01Number_m v7).bind fun v8 =>
  (chk ((s6.2.length + [v8.1].length) * 1 * 64 ≤ 140737488355328) (
  some (.inl (w64 (s6.1 + 1), s6.2 ++ [v8.1]))))))
  else
  some (.inr s6.2))) (1, ([] : List Int)) : Option (List Int)).bind fun v10 =>
  (((if 1 < (v10.length : Int) then
  ((atI v10 0).bind fun v11 =>
  ((atI v10 1).bind fun v12 =>
  some (⟨0, (⟨v11, v12⟩ : Spot_), (⟨0, 0⟩ : Spot_), 0, (⟨#[]⟩ : ByteArray)⟩ : Shape_)))
  else
  some (⟨0, (⟨0, 0⟩ : Spot_), (⟨0, 0⟩ : Spot_), 0, (⟨#[]⟩ : ByteArray)⟩ : Shape_)) : Option Shape_).bind fun v13 =>
  ((((((atI v1 0).bind fun v14 =>
  (if v14 = (⟨#[108, 105, 110, 101]⟩ : ByteArray) then
  some (decide ((v10.length : Int) = 4))
  else
  some false)) : Option Bool).bind fun v15 =>
  (if v15 = true then
  ((atI v10 2).bind fun v16 =>
  ((atI v10 3).bind fun v17 =>
  some (⟨1, v13.A, (⟨v16, v17⟩ : Spot_), v13.R, v13.Name⟩ : Shape_)))
  else
  ((((atI v1 0).bind fun v18 =>
  (if v18 = (⟨#[99, 105, 114, 99, 108, 101]⟩ : ByteArray) then
  some (decide ((v10.length : Int) = 3))
  else
  some false)) : Option Bool).bind fun v19 =>
  (if v19 = true then
  ((atI v10 2).bind fun v20 =>
  some (⟨2, v13.A, v13.B, v20, v13.Name⟩ : Shape_))
  else
  ((((atI v1 0).bind fun v21 =>
  (if v21 = (⟨#[108, 97, 98, 101, 108]⟩ : ByteArray) then
  some (decide ((v10.length : Int) = 3))
  else
  some false)) : Option Bool).bind fun v22 =>
  (if v22 = true then
  ((atI v1 3).bind fun v23 =>
  some (⟨3, v13.A, v13.B, v13.R, v23⟩ : Shape_))
  else
  some v13)))))) : Option Shape_).bind fun v24 =>
  some v24))))

def s_l00In_m (p0 : Int) (p1 : Int) (p2 : Int) : Option Bool :=
  (if p1 ≤ p0 then
  some (decide (p0 ≤ p2))
  else
  some false)

def s_l25Spot_m (p0 : Spot_) : Option Bool :=
  ((s_l00In_m p0.X (-100000) 100000).bind fun v1 =>
  (if v1 = true then
  ((s_l00In_m p0.Y (-100000) 100000).bind fun v2 =>
  some v2)
  else
  some false))

def s_l01Small_m (p0 : Int) : Option Bool :=
  (if 97 ≤ p0 then
  some (decide (p0 ≤ 122))
  else
  some false)

def s_IsName_m (p0 : ByteArray) : Option Bool :=
  (((if p0 = (⟨#[]⟩ : ByteArray) then
  some true
  else
  (if 12 < (p0.size : Int) then
  some true
  else
  ((strAt p0 0).bind fun v1 =>
  ((s_l01Small_m v1).bind fun v2 =>
  some (!v2))))) : Option Bool).bind fun v3 =>
  (if v3 = true then
  some false
  else
  ((loopM (S := Int) (X := Unit ⊕ Bool) (fun s11 =>
  (if s11 < (p0.size : Int) then
  ((((strAt p0 s11).bind fun v12 =>
  ((s_l01Small_m v12).bind fun v13 =>
  (if (!v13) = true then
  ((strAt p0 s11).bind fun v14 =>
  ((s_l01Digit_m v14).bind fun v15 =>
  (if (!v15) = true then
  ((strAt p0 s11).bind fun v16 =>
  some (decide (v16 ≠ 45)))
  else
  some false)))
  else
  some false))) : Option Bool).bind fun v17 =>
  (if v17 = true then
  some (.inr (.inr false))
  else
  some (.inl (w64 (s11 + 1)))))
  else
  some (.inr (.inl ())))) 0 : Option (Unit ⊕ Bool)).bind fun v18x => orE v18x fun v18 =>
  some true)))

def s_l25Shape_m (p0 : Shape_) : Option Bool :=
  ((s_l25Spot_m p0.A).bind fun v1 =>
  (if (!v1) = true then
  some false
  else
  (if p0.Kind = 1 then
  ((s_l25Spot_m p0.B).bind fun v2 =>
  (if v2 = true then
  (if p0.R = 0 then
  some (decide (p0.Name = (⟨#[]⟩ : ByteArray)))
  else
  some false)
  else
  some false))
  else
  (if p0.Kind = 2 then
  (if p0.B = (⟨0, 0⟩ : Spot_) then
  ((s_l00In_m p0.R 1 100000).bind fun v3 =>
  (if v3 = true then
  some (decide (p0.Name = (⟨#[]⟩ : ByteArray)))
  else
  some false))
  else
  some false)
  else
  (if p0.Kind = 3 then
  (if p0.B = (⟨0, 0⟩ : Spot_) then
  (if p0.R = 0 then
  ((s_IsName_m p0.Name).bind fun v4 =>
  some v4)
  else
  some false)
  else
  some false)
  else
  some false)))))

def s_l25Ok_m (p0 : Drawing_) : Option Bool :=
  ((loopM (S := Int) (X := Unit ⊕ Bool) (fun s4 =>
  (if s4 < (p0.Shapes.length : Int) then
  ((atI p0.Shapes s4).bind fun v5 =>
  ((s_l25Shape_m v5).bind fun v6 =>
  (if (!v6) = true then
  some (.inr (.inr false))
  else
  some (.inl (w64 (s4 + 1))))))
  else
  some (.inr (.inl ())))) 0 : Option (Unit ⊕ Bool)).bind fun v7x => orE v7x fun v7 =>
  some (decide ((p0.Shapes.length : Int) ≤ 1200)))

def s_l25At_m (p0 : Spot_) : Option ByteArray :=
  ((s_l01Dec_m p0.X).bind fun v1 =>
  (chk ((⟨#[32]⟩ : ByteArray).size + v1.size ≤ 9223372036854775807) (
  (chk (((⟨#[32]⟩ : ByteArray) ++ v1).size + (⟨#[32]⟩ : ByteArray).size ≤ 9223372036854775807) (
  ((s_l01Dec_m p0.Y).bind fun v4 =>
  (chk ((((⟨#[32]⟩ : ByteArray) ++ v1) ++ (⟨#[32]⟩ : ByteArray)).size + v4.size ≤ 9223372036854775807) (
  some ((((⟨#[32]⟩ : ByteArray) ++ v1) ++ (⟨#[32]⟩ : ByteArray)) ++ v4)))))))))

def s_l25Line_m (p0 : Shape_) : Option ByteArray :=
  (if p0.Kind = 1 then
  ((s_l25At_m p0.A).bind fun v1 =>
  (chk ((⟨#[108, 105, 110, 101]⟩ : ByteArray).size + v1.size ≤ 9223372036854775807) (
  ((s_l25At_m p0.B).bind fun v3 =>
  (chk (((⟨#[108, 105, 110, 101]⟩ : ByteArray) ++ v1).size + v3.size ≤ 9223372036854775807) (
  some (((⟨#[108, 105, 110, 101]⟩ : ByteArray) ++ v1) ++ v3)))))))
  else
  (if p0.Kind = 2 then
  ((s_l25At_m p0.A).bind fun v5 =>
  (chk ((⟨#[99, 105, 114, 99, 108, 101]⟩ : ByteArray).size + v5.size ≤ 9223372036854775807) (
  (chk (((⟨#[99, 105, 114, 99, 108, 101]⟩ : ByteArray) ++ v5).size + (⟨#[32]⟩ : ByteArray).size ≤ 9223372036854775807) (
  ((s_l01Dec_m p0.R).bind fun v8 =>
  (chk ((((⟨#[99, 105, 114, 99, 108, 101]⟩ : ByteArray) ++ v5) ++ (⟨#[32]⟩ : ByteArray)).size + v8.size ≤ 9223372036854775807) (
  some ((((⟨#[99, 105, 114, 99, 108, 101]⟩ : ByteArray) ++ v5) ++ (⟨#[32]⟩ : ByteArray)) ++ v8)))))))))
  else
  ((s_l25At_m p0.A).bind fun v10 =>
  (chk ((⟨#[108, 97, 98, 101, 108]⟩ : ByteArray).size + v10.size ≤ 9223372036854775807) (
  (chk (((⟨#[108, 97, 98, 101, 108]⟩ : ByteArray) ++ v10).size + (⟨#[32]⟩ : ByteArray).size ≤ 9223372036854775807) (
  (chk ((((⟨#[108, 97, 98, 101, 108]⟩ : ByteArray) ++ v10) ++ (⟨#[32]⟩ : ByteArray)).size + p0.Name.size ≤ 9223372036854775807) (
  some ((((⟨#[108, 97, 98, 101, 108]⟩ : ByteArray) ++ v10) ++ (⟨#[32]⟩ : ByteArray)) ++ p0.Name))))))))))

def s_l25Text_m (p0 : Drawing_) : Option ByteArray :=
  ((loopM (S := ByteArray × Int) (X := ByteArray) (fun s6 =>
  (if s6.2 < (p0.Shapes.length : Int) then
  ((atI p0.Shapes s6.2).bind fun v7 =>
  ((s_l25Line_m v7).bind fun v8 =>
  (chk (v8.size + (⟨#[10]⟩ : ByteArray).size ≤ 9223372036854775807) (
  (chk (s6.1.size + (v8 ++ (⟨#[10]⟩ : ByteArray)).size ≤ 9223372036854775807) (
  some (.inl (s6.1 ++ (v8 ++ (⟨#[10]⟩ : ByteArray)), w64 (s6.2 + 1)))))))))
  else
  some (.inr s6.1))) ((⟨#[]⟩ : ByteArray), 0) : Option ByteArray).bind fun v11 =>
  some v11)

def s_ReadDrawing_m (p0 : ByteArray) : Option (Drawing_ × Bool) :=
  (if 60000 < (p0.size : Int) then
  some ((⟨([] : List Shape_)⟩ : Drawing_), false)
  else
  ((s_l01Split_m p0 10).bind fun v1 =>
  ((loopM (S := Int × List Shape_) (X := List Shape_) (fun s6 =>
  (if (w64 (s6.1 + 1)) < (v1.length : Int) then
  ((atI v1 s6.1).bind fun v7 =>
  ((s_l25Read_m v7).bind fun v8 =>
  (chk ((s6.2.length + [v8].length) * 7 * 64 ≤ 140737488355328) (
  some (.inl (w64 (s6.1 + 1), s6.2 ++ [v8]))))))
  else
  some (.inr s6.2))) (0, ([] : List Shape_)) : Option (List Shape_)).bind fun v10 =>
  ((((s_l25Ok_m (⟨v10⟩ : Drawing_)).bind fun v11 =>
  (if (!v11) = true then
  some true
  else
  ((s_l25Text_m (⟨v10⟩ : Drawing_)).bind fun v12 =>
  some (decide (v12 ≠ p0))))) : Option Bool).bind fun v13 =>
  (if v13 = true then
  some ((⟨([] : List Shape_)⟩ : Drawing_), false)
  else
  some ((⟨v10⟩ : Drawing_), true))))))

def internal_stringslite_HasSuffix_m (p0 : ByteArray) (p1 : ByteArray) : Option Bool :=
  (if (p1.size : Int) ≤ (p0.size : Int) then
  (chk (0 ≤ (w64 ((p0.size : Int) - (p1.size : Int))) ∧ (w64 ((p0.size : Int) - (p1.size : Int))) ≤ (p0.size : Int) ∧ (p0.size : Int) ≤ (p0.size : Int)) (
  some (decide ((p0.extract (w64 ((p0.size : Int) - (p1.size : Int))).toNat (p0.size : Int).toNat) = p1))))
  else
  some false)

def strings_HasSuffix_m (p0 : ByteArray) (p1 : ByteArray) : Option Bool :=
  ((internal_stringslite_HasSuffix_m p0 p1).bind fun v1 =>
  some v1)

def internal_stringslite_TrimSuffix_m (p0 : ByteArray) (p1 : ByteArray) : Option ByteArray :=
  ((internal_stringslite_HasSuffix_m p0 p1).bind fun v1 =>
  (if v1 = true then
  (chk (0 ≤ (0 : Int) ∧ (0 : Int) ≤ (w64 ((p0.size : Int) - (p1.size : Int))) ∧ (w64 ((p0.size : Int) - (p1.size : Int))) ≤ (p0.size : Int)) (
  some (p0.extract (0 : Int).toNat (w64 ((p0.size : Int) - (p1.size : Int))).toNat)))
  else
  some p0))

def strings_TrimSuffix_m (p0 : ByteArray) (p1 : ByteArray) : Option ByteArray :=
  ((internal_stringslite_TrimSuffix_m p0 p1).bind fun v1 =>
  some v1)

def strings_Count_m (p0 p1 : ByteArray) : Option Int := (chk (p1.size = 1) (some (Lib.countByte p0.data.toList (p1.data.toList.headD 0))))

def internal_stringslite_Index_m (p0 p1 : ByteArray) : Option Int := (chk (p1.size = 1) (some (Lib.indexByte p0.data.toList (p1.data.toList.headD 0))))

def strings_Index_m (p0 : ByteArray) (p1 : ByteArray) : Option Int :=
  ((internal_stringslite_Index_m p0 p1).bind fun v1 =>
  some v1)

def strings_genSplit_m (p0 : ByteArray) (p1 : ByteArray) (p2 : Int) (p3 : Int) : Option (List ByteArray) :=
  (if p3 = 0 then
  some ([] : List ByteArray)
  else
  (if p1 = (⟨#[]⟩ : ByteArray) then
  none
  else
  (((if p3 < 0 then
  ((strings_Count_m p0 p1).bind fun v1 =>
  some (w64 (v1 + 1)))
  else
  some p3) : Option Int).bind fun v2 =>
  (chk (0 ≤ (min v2 (w64 ((p0.size : Int) + 1))) ∧ (min v2 (w64 ((p0.size : Int) + 1))) = (min v2 (w64 ((p0.size : Int) + 1))) ∧ (min v2 (w64 ((p0.size : Int) + 1))).toNat * 1 * 64 ≤ 281474976710656) (
  ((loopM (S := ByteArray × Int × List ByteArray) (X := ByteArray × Int × List ByteArray) (fun s9 =>
  (if s9.2.1 < (w64 ((min v2 (w64 ((p0.size : Int) + 1))) - 1)) then
  ((strings_Index_m s9.1 p1).bind fun v10 =>
  (if v10 < 0 then
  some (.inr (s9.1, s9.2.1, s9.2.2))
  else
  (chk (0 ≤ (0 : Int) ∧ (0 : Int) ≤ (w64 (v10 + p2)) ∧ (w64 (v10 + p2)) ≤ (s9.1.size : Int)) (
  ((atI s9.2.2 s9.2.1).bind fun v12 =>
  (chk (0 ≤ (w64 (v10 + (p1.size : Int))) ∧ (w64 (v10 + (p1.size : Int))) ≤ (s9.1.size : Int) ∧ (s9.1.size : Int) ≤ (s9.1.size : Int)) (
  some (.inl (s9.1.extract (w64 (v10 + (p1.size : Int))).toNat (s9.1.size : Int).toNat, w64 (s9.2.1 + 1), List.set s9.2.2 s9.2.1.toNat (s9.1.extract (0 : Int).toNat (w64 (v10 + p2)).toNat))))))))))
  else
  some (.inr (s9.1, s9.2.1, s9.2.2)))) (p0, 0, List.replicate (min v2 (w64 ((p0.size : Int) + 1))).toNat (⟨#[]⟩ : ByteArray)) : Option (ByteArray × Int × List ByteArray)).bind fun v14 =>
  ((atI v14.2.2 v14.2.1).bind fun v15 =>
  (chk (0 ≤ (w64 (v14.2.1 + 1)) ∧ (w64 (v14.2.1 + 1)) ≤ ((List.set v14.2.2 v14.2.1.toNat v14.1).length : Int)) (
  some (List.take (w64 (v14.2.1 + 1)).toNat (List.set v14.2.2 v14.2.1.toNat v14.1)))))))))))

def strings_Split_m (p0 : ByteArray) (p1 : ByteArray) : Option (List ByteArray) :=
  ((strings_genSplit_m p0 p1 0 (-1)).bind fun v1 =>
  some v1)

def i_linesOf_m (p0 : ByteArray) : Option (List ByteArray × Bool) :=
  (if p0 = (⟨#[]⟩ : ByteArray) then
  some (([] : List ByteArray), true)
  else
  ((strings_HasSuffix_m p0 (⟨#[10]⟩ : ByteArray)).bind fun v1 =>
  (if (!v1) = true then
  some (([] : List ByteArray), false)
  else
  ((strings_TrimSuffix_m p0 (⟨#[10]⟩ : ByteArray)).bind fun v2 =>
  ((strings_Split_m v2 (⟨#[10]⟩ : ByteArray)).bind fun v3 =>
  some (v3, true))))))

def i_wordsOf_m (p0 : ByteArray) : Option (List ByteArray) :=
  ((strings_Split_m p0 (⟨#[32]⟩ : ByteArray)).bind fun v1 =>
  some v1)

def i_ReadDecimal_m (p0 : ByteArray) : Option (Int × Bool) := (chk (p0.size ≤ 281474976710656) (some (readD p0)))

def i_line_m (p0 : Spot_) (p1 : Spot_) : Option Shape_ :=
  some (⟨1, p0, p1, 0, (⟨#[]⟩ : ByteArray)⟩ : Shape_)

def i_circle_m (p0 : Spot_) (p1 : Int) : Option Shape_ :=
  some (⟨2, p0, (⟨0, 0⟩ : Spot_), p1, (⟨#[]⟩ : ByteArray)⟩ : Shape_)

def i_label_m (p0 : Spot_) (p1 : ByteArray) : Option Shape_ :=
  some (⟨3, p0, (⟨0, 0⟩ : Spot_), 0, p1⟩ : Shape_)

def i_readShape_m (p0 : ByteArray) : Option (Shape_ × Bool) :=
  ((i_wordsOf_m p0).bind fun v1 =>
  (chk (0 ≤ (v1.length : Int) ∧ (v1.length : Int) = (v1.length : Int) ∧ (v1.length : Int).toNat * 1 * 64 ≤ 281474976710656) (
  ((loopM (S := Int × List Int) (X := List Int) (fun s7 =>
  (if s7.1 < (v1.length : Int) then
  ((atI v1 s7.1).bind fun v8 =>
  ((i_ReadDecimal_m v8).bind fun v9 =>
  ((atI s7.2 s7.1).bind fun v10 =>
  some (.inl (w64 (s7.1 + 1), List.set s7.2 s7.1.toNat v9.1)))))
  else
  some (.inr s7.2))) (0, List.replicate (v1.length : Int).toNat 0) : Option (List Int)).bind fun v11 =>
  ((((atI v1 0).bind fun v12 =>
  (if v12 = (⟨#[108, 105, 110, 101]⟩ : ByteArray) then
  some (decide ((v1.length : Int) = 5))
  else
  some false)) : Option Bool).bind fun v13 =>
  (if v13 = true then
  ((atI v11 1).bind fun v14 =>
  ((atI v11 2).bind fun v15 =>
  ((atI v11 3).bind fun v16 =>
  ((atI v11 4).bind fun v17 =>
  ((i_line_m (⟨v14, v15⟩ : Spot_) (⟨v16, v17⟩ : Spot_)).bind fun v18 =>
  some (v18, true))))))
  else
  ((((atI v1 0).bind fun v19 =>
  (if v19 = (⟨#[99, 105, 114, 99, 108, 101]⟩ : ByteArray) then
  some (decide ((v1.length : Int) = 4))
  else
  some false)) : Option Bool).bind fun v20 =>
  (if v20 = true then
  ((atI v11 1).bind fun v21 =>
  ((atI v11 2).bind fun v22 =>
  ((atI v11 3).bind fun v23 =>
  ((i_circle_m (⟨v21, v22⟩ : Spot_) v23).bind fun v24 =>
  some (v24, true)))))
  else
  ((((atI v1 0).bind fun v25 =>
  (if v25 = (⟨#[108, 97, 98, 101, 108]⟩ : ByteArray) then
  some (decide ((v1.length : Int) = 4))
  else
  some false)) : Option Bool).bind fun v26 =>
  (if v26 = true then
  ((atI v11 1).bind fun v27 =>
  ((atI v11 2).bind fun v28 =>
  ((atI v1 3).bind fun v29 =>
  ((i_label_m (⟨v27, v28⟩ : Spot_) v29).bind fun v30 =>
  some (v30, true)))))
  else
  some ((⟨0, (⟨0, 0⟩ : Spot_), (⟨0, 0⟩ : Spot_), 0, (⟨#[]⟩ : ByteArray)⟩ : Shape_), false)))))))))))

def i_within_m (p0 : Int) (p1 : Int) (p2 : Int) : Option Bool :=
  (if p1 ≤ p0 then
  some (decide (p0 ≤ p2))
  else
  some false)

def i_validSpot_m (p0 : Spot_) : Option Bool :=
  ((i_within_m p0.X (-100000) 100000).bind fun v1 =>
  (if v1 = true then
  ((i_within_m p0.Y (-100000) 100000).bind fun v2 =>
  some v2)
  else
  some false))

def i_IsName_m (p0 : ByteArray) : Option Bool :=
  (((if (p0.size : Int) < 1 then
  some true
  else
  some (decide (12 < (p0.size : Int)))) : Option Bool).bind fun v1 =>
  (if v1 = true then
  some false
  else
  (((chk (p0.size ≤ 140737488355328) (
  loopM (S := Int) (X := Unit ⊕ Bool) (fun s8 =>
  (if s8 < ((bytesL p0).length : Int) then
  ((atI (bytesL p0) s8).bind fun v9 =>
  (((if 97 ≤ v9 then
  some (decide (v9 ≤ 122))
  else
  some false) : Option Bool).bind fun v10 =>
  (((if 48 ≤ v9 then
  (if v9 ≤ 57 then
  some true
  else
  some (decide (v9 = 45)))
  else
  some (decide (v9 = 45))) : Option Bool).bind fun v11 =>
  (((if (!v10) = true then
  (if s8 = 0 then
  some true
  else
  some (!v11))
  else
  some false) : Option Bool).bind fun v12 =>
  (if v12 = true then
  some (.inr (.inr false))
  else
  some (.inl (w64 (s8 + 1))))))))
  else
  some (.inr (.inl ())))) 0)) : Option (Unit ⊕ Bool)).bind fun v13x => orE v13x fun v13 =>
  some true)))

def i_validShape_m (p0 : Shape_) : Option Bool :=
  ((i_validSpot_m p0.A).bind fun v1 =>
  (if (!v1) = true then
  some false
  else
  (if p0.Kind = 1 then
  ((i_validSpot_m p0.B).bind fun v2 =>
  (if v2 = true then
  ((i_line_m p0.A p0.B).bind fun v3 =>
  some (decide (p0 = v3)))
  else
  some false))
  else
  (if p0.Kind = 2 then
  ((i_within_m p0.R 1 100000).bind fun v4 =>
  (if v4 = true then
  ((i_circle_m p0.A p0.R).bind fun v5 =>
  some (decide (p0 = v5)))
  else
  some false))
  else
  (if p0.Kind = 3 then
  ((i_IsName_m p0.Name).bind fun v6 =>
  (if v6 = true then
  ((i_label_m p0.A p0.Name).bind fun v7 =>
  some (decide (p0 = v7)))
  else
  some false))
  else
  some false)))))

def i_ValidDrawing_1_m (p0 : Shape_) : Option Bool :=
  ((i_validShape_m p0).bind fun v1 =>
  some (!v1))

def slices_IndexFunc_LShape_Shape_i_ValidDrawing_1_m (p0 : List Shape_) : Option Int :=
  ((loopM (S := Int) (X := Unit ⊕ Int) (fun s4 =>
  (if s4 < (p0.length : Int) then
  ((atI p0 s4).bind fun v5 =>
  ((i_ValidDrawing_1_m v5).bind fun v6 =>
  (if v6 = true then
  some (.inr (.inr s4))
  else
  some (.inl (w64 (s4 + 1))))))
  else
  some (.inr (.inl ())))) 0 : Option (Unit ⊕ Int)).bind fun v7x => orE v7x fun v7 =>
  some (-1))

def slices_ContainsFunc_LShape_Shape_i_ValidDrawing_1_m (p0 : List Shape_) : Option Bool :=
  ((slices_IndexFunc_LShape_Shape_i_ValidDrawing_1_m p0).bind fun v1 =>
  some (decide (0 ≤ v1)))

def i_ValidDrawing_m (p0 : Drawing_) : Option Bool :=
  (if (p0.Shapes.length : Int) ≤ 1200 then
  ((slices_ContainsFunc_LShape_Shape_i_ValidDrawing_1_m p0.Shapes).bind fun v1 =>
  some (!v1))
  else
  some false)

def strconv_FormatInt_m (p0 p1 : Int) : Option ByteArray := (chk (-9223372036854775808 ≤ p0 ∧ p0 ≤ 9223372036854775807 ∧ p1 = 10) (some ⟨(Lib.itoa p0).toArray⟩))

def i_Decimal_m (p0 : Int) : Option ByteArray :=
  ((strconv_FormatInt_m p0 10).bind fun v1 =>
  some v1)

def i_shapeText_m (p0 : Shape_) : Option ByteArray :=
  ((i_Decimal_m p0.A.X).bind fun v1 =>
  (chk (v1.size + (⟨#[32]⟩ : ByteArray).size ≤ 9223372036854775807) (
  ((i_Decimal_m p0.A.Y).bind fun v3 =>
  (chk ((v1 ++ (⟨#[32]⟩ : ByteArray)).size + v3.size ≤ 9223372036854775807) (
  (if p0.Kind = 1 then
  (chk ((⟨#[108, 105, 110, 101, 32]⟩ : ByteArray).size + ((v1 ++ (⟨#[32]⟩ : ByteArray)) ++ v3).size ≤ 9223372036854775807) (
  (chk (((⟨#[108, 105, 110, 101, 32]⟩ : ByteArray) ++ ((v1 ++ (⟨#[32]⟩ : ByteArray)) ++ v3)).size + (⟨#[32]⟩ : ByteArray).size ≤ 9223372036854775807) (
  ((i_Decimal_m p0.B.X).bind fun v7 =>
  (chk ((((⟨#[108, 105, 110, 101, 32]⟩ : ByteArray) ++ ((v1 ++ (⟨#[32]⟩ : ByteArray)) ++ v3)) ++ (⟨#[32]⟩ : ByteArray)).size + v7.size ≤ 9223372036854775807) (
  (chk (((((⟨#[108, 105, 110, 101, 32]⟩ : ByteArray) ++ ((v1 ++ (⟨#[32]⟩ : ByteArray)) ++ v3)) ++ (⟨#[32]⟩ : ByteArray)) ++ v7).size + (⟨#[32]⟩ : ByteArray).size ≤ 9223372036854775807) (
  ((i_Decimal_m p0.B.Y).bind fun v10 =>
  (chk ((((((⟨#[108, 105, 110, 101, 32]⟩ : ByteArray) ++ ((v1 ++ (⟨#[32]⟩ : ByteArray)) ++ v3)) ++ (⟨#[32]⟩ : ByteArray)) ++ v7) ++ (⟨#[32]⟩ : ByteArray)).size + v10.size ≤ 9223372036854775807) (
  some ((((((⟨#[108, 105, 110, 101, 32]⟩ : ByteArray) ++ ((v1 ++ (⟨#[32]⟩ : ByteArray)) ++ v3)) ++ (⟨#[32]⟩ : ByteArray)) ++ v7) ++ (⟨#[32]⟩ : ByteArray)) ++ v10)))))))))))))
  else
  (if p0.Kind = 2 then
  (chk ((⟨#[99, 105, 114, 99, 108, 101, 32]⟩ : ByteArray).size + ((v1 ++ (⟨#[32]⟩ : ByteArray)) ++ v3).size ≤ 9223372036854775807) (
  (chk (((⟨#[99, 105, 114, 99, 108, 101, 32]⟩ : ByteArray) ++ ((v1 ++ (⟨#[32]⟩ : ByteArray)) ++ v3)).size + (⟨#[32]⟩ : ByteArray).size ≤ 9223372036854775807) (
  ((i_Decimal_m p0.R).bind fun v14 =>
  (chk ((((⟨#[99, 105, 114, 99, 108, 101, 32]⟩ : ByteArray) ++ ((v1 ++ (⟨#[32]⟩ : ByteArray)) ++ v3)) ++ (⟨#[32]⟩ : ByteArray)).size + v14.size ≤ 9223372036854775807) (
  some ((((⟨#[99, 105, 114, 99, 108, 101, 32]⟩ : ByteArray) ++ ((v1 ++ (⟨#[32]⟩ : ByteArray)) ++ v3)) ++ (⟨#[32]⟩ : ByteArray)) ++ v14))))))))
  else
  (chk ((⟨#[108, 97, 98, 101, 108, 32]⟩ : ByteArray).size + ((v1 ++ (⟨#[32]⟩ : ByteArray)) ++ v3).size ≤ 9223372036854775807) (
  (chk (((⟨#[108, 97, 98, 101, 108, 32]⟩ : ByteArray) ++ ((v1 ++ (⟨#[32]⟩ : ByteArray)) ++ v3)).size + (⟨#[32]⟩ : ByteArray).size ≤ 9223372036854775807) (
  (chk ((((⟨#[108, 97, 98, 101, 108, 32]⟩ : ByteArray) ++ ((v1 ++ (⟨#[32]⟩ : ByteArray)) ++ v3)) ++ (⟨#[32]⟩ : ByteArray)).size + p0.Name.size ≤ 9223372036854775807) (
  some ((((⟨#[108, 97, 98, 101, 108, 32]⟩ : ByteArray) ++ ((v1 ++ (⟨#[32]⟩ : ByteArray)) ++ v3)) ++ (⟨#[32]⟩ : ByteArray)) ++ p0.Name)))))))))))))))

def i_DrawingText_m (p0 : Drawing_) : Option ByteArray :=
  ((i_ValidDrawing_m p0).bind fun v1 =>
  (if v1 = true then linesM i_shapeText_m p0.Shapes ⟨#[]⟩ else some ⟨#[]⟩))

def i_ReadDrawing_m (p0 : ByteArray) : Option (Drawing_ × Bool) :=
  ((i_linesOf_m p0).bind fun v1 =>
  (((if (!v1.2) = true then
  some true
  else
  some (decide (60000 < (p0.size : Int)))) : Option Bool).bind fun v2 =>
  (if v2 = true then
  some ((⟨([] : List Shape_)⟩ : Drawing_), false)
  else
  ((loopM (S := Int × List Shape_) (X := (List Shape_) ⊕ (Drawing_ × Bool)) (fun s7 =>
  (if s7.1 < (v1.1.length : Int) then
  ((atI v1.1 s7.1).bind fun v8 =>
  ((i_readShape_m v8).bind fun v9 =>
  (if (!v9.2) = true then
  some (.inr (.inr ((⟨([] : List Shape_)⟩ : Drawing_), false)))
  else
  (chk ((s7.2.length + [v9.1].length) * 7 * 64 ≤ 140737488355328) (
  some (.inl (w64 (s7.1 + 1), s7.2 ++ [v9.1])))))))
  else
  some (.inr (.inl s7.2)))) (0, ([] : List Shape_)) : Option ((List Shape_) ⊕ (Drawing_ × Bool))).bind fun v11x => orE v11x fun v11 =>
  ((((i_ValidDrawing_m (⟨v11⟩ : Drawing_)).bind fun v12 =>
  (if (!v12) = true then
  some true
  else
  ((i_DrawingText_m (⟨v11⟩ : Drawing_)).bind fun v13 =>
  some (decide (v13 ≠ p0))))) : Option Bool).bind fun v14 =>
  (if v14 = true then
  some ((⟨([] : List Shape_)⟩ : Drawing_), false)
  else
  some ((⟨v11⟩ : Drawing_), true)))))))

def l_f6big_m (p0 : List Int) : Option Bool :=
  some (decide (4096 < (p0.length : Int)))

def s_l00From_m (p0 : List Int) : Option L00Src_ :=
  some (⟨p0, 0, 0⟩ : L00Src_)

def l00Src_next_b_m (p0 : L00Src_) : Option (Int × L00Src_) :=
  (((if p0.at_ < (p0.code.length : Int) then
  ((atI p0.code p0.at_).bind fun v1 =>
  some (w64 v1))
  else
  some 0) : Option Int).bind fun v2 =>
  (if (w64 (p0.at_ + 1)) ≤ (p0.code.length : Int) then
  some (v2, (⟨p0.code, w64 (p0.at_ + 1), IntKind.u64.wrap ((IntKind.u64.wrap ((IntKind.u64.wrap (p0.seed * 6364136223846793005)) + (IntKind.u64.wrap v2))) + 1442695040888963407)⟩ : L00Src_))
  else
  some (w64 (andK .u64 (shrK .u64 (IntKind.u64.wrap ((IntKind.u64.wrap ((IntKind.u64.wrap (p0.seed * 6364136223846793005)) + (IntKind.u64.wrap v2))) + 1442695040888963407)) 40) 255), (⟨p0.code, w64 (p0.at_ + 1), IntKind.u64.wrap ((IntKind.u64.wrap ((IntKind.u64.wrap (p0.seed * 6364136223846793005)) + (IntKind.u64.wrap v2))) + 1442695040888963407)⟩ : L00Src_))))

def l00Src_pick_b_m (p0 : L00Src_) (p1 : Int) : Option (Int × L00Src_) :=
  (if p1 ≤ 1 then
  some (0, p0)
  else
  ((l00Src_next_b_m p0).bind fun v1 =>
  (((if 200 < p1 then
  ((l00Src_next_b_m v1.2).bind fun v2 =>
  some (w64 ((w64 (v1.1 * 256)) + v2.1), v2.2))
  else
  some (v1.1, v1.2)) : Option (Int × L00Src_)).bind fun v3 =>
  (chk (p1 ≠ 0) (
  some (v3.1.tmod p1, v3.2))))))

def l00Src_one_b_m (p0 : L00Src_) (p1 : Int) : Option (Bool × L00Src_) :=
  ((l00Src_pick_b_m p0 p1).bind fun v1 =>
  some (decide (v1.1 = 0), v1.2))

def l00Src_among_b_m (p0 : L00Src_) (p1 : List Int) : Option (Int × L00Src_) :=
  ((l00Src_pick_b_m p0 (p1.length : Int)).bind fun v1 =>
  ((atI p1 v1.1).bind fun v2 =>
  some (v2, v1.2)))

def s_l25DrawSpot_b_m (p0 : L00Src_) : Option (Spot_ × L00Src_) :=
  ((l00Src_pick_b_m p0 2000).bind fun v1 =>
  ((l00Src_pick_b_m v1.2 2000).bind fun v2 =>
  ((((l00Src_one_b_m v2.2 20).bind fun v3 =>
  (if v3.1 = true then
  ((l00Src_among_b_m v3.2 [-100000, 100000]).bind fun v4 =>
  some (v4.1, v4.2))
  else
  some (w64 (v1.1 - 1000), v3.2))) : Option (Int × L00Src_)).bind fun v5 =>
  some ((⟨v5.1, w64 (v2.1 - 1000)⟩ : Spot_), v5.2))))

def l00Src_text_b_m (p0 : L00Src_) (p1 : List ByteArray) : Option (ByteArray × L00Src_) :=
  ((l00Src_pick_b_m p0 (p1.length : Int)).bind fun v1 =>
  ((atI p1 v1.1).bind fun v2 =>
  some (v2, v1.2)))

def s_l25Draw_b_m (p0 : L00Src_) : Option (Drawing_ × L00Src_) :=
  ((((l00Src_pick_b_m p0 7).bind fun v1 =>
  loopM (S := Int × L00Src_ × List Shape_) (X := L00Src_ × List Shape_) (fun s12 =>
  (if 0 < s12.1 then
  ((((s_l25DrawSpot_b_m s12.2.1).bind fun v13 =>
  ((l00Src_pick_b_m v13.2 3).bind fun v14 =>
  (if v14.1 = 0 then
  ((s_l25DrawSpot_b_m v14.2).bind fun v15 =>
  (chk ((s12.2.2.length + [(⟨1, v13.1, v15.1, 0, (⟨#[]⟩ : ByteArray)⟩ : Shape_)].length) * 7 * 64 ≤ 140737488355328) (
  some (v15.2, s12.2.2 ++ [(⟨1, v13.1, v15.1, 0, (⟨#[]⟩ : ByteArray)⟩ : Shape_)]))))
  else
  (if v14.1 = 1 then
  ((l00Src_pick_b_m v14.2 500).bind fun v17 =>
  (chk ((s12.2.2.length + [(⟨2, v13.1, (⟨0, 0⟩ : Spot_), w64 (1 + v17.1), (⟨#[]⟩ : ByteArray)⟩ : Shape_)].length) * 7 * 64 ≤ 140737488355328) (
  some (v17.2, s12.2.2 ++ [(⟨2, v13.1, (⟨0, 0⟩ : Spot_), w64 (1 + v17.1), (⟨#[]⟩ : ByteArray)⟩ : Shape_)]))))
  else
  ((l00Src_text_b_m v14.2 [(⟨#[97]⟩ : ByteArray), (⟨#[103, 114, 101, 97, 116, 45, 119, 104, 101, 101, 108]⟩ : ByteArray), (⟨#[120, 49]⟩ : ByteArray)]).bind fun v19 =>
  (chk ((s12.2.2.length + [(⟨3, v13.1, (⟨0, 0⟩ : Spot_), 0, v19.1⟩ : Shape_)].length) * 7 * 64 ≤ 140737488355328) (
  some (v19.2, s12.2.2 ++ [(⟨3, v13.1, (⟨0, 0⟩ : Spot_), 0, v19.1⟩ : Shape_)])))))))) : Option (L00Src_ × List Shape_)).bind fun v21 =>
  some (.inl (w64 (s12.1 - 1), v21.1, v21.2)))
  else
  some (.inr (s12.2.1, s12.2.2)))) (v1.1, v1.2, ([] : List Shape_))) : Option (L00Src_ × List Shape_)).bind fun v22 =>
  some ((⟨v22.2⟩ : Drawing_), v22.1))

def s_l25Bent_b_m (p0 : L00Src_) : Option (Drawing_ × L00Src_) :=
  ((s_l25Draw_b_m p0).bind fun v1 =>
  ((l00Src_pick_b_m v1.2 (v1.1.Shapes.length : Int)).bind fun v2 =>
  ((l00Src_pick_b_m v2.2 24).bind fun v3 =>
  (((if v3.1 = 0 then
  ((loopM (S := List Shape_) (X := List Shape_) (fun s6 =>
  (if (s6.length : Int) < 1200 then
  (chk ((s6.length + [(⟨2, (⟨0, 0⟩ : Spot_), (⟨0, 0⟩ : Spot_), 5, (⟨#[]⟩ : ByteArray)⟩ : Shape_)].length) * 7 * 64 ≤ 140737488355328) (
  some (.inl (s6 ++ [(⟨2, (⟨0, 0⟩ : Spot_), (⟨0, 0⟩ : Spot_), 5, (⟨#[]⟩ : ByteArray)⟩ : Shape_)]))))
  else
  some (.inr s6))) v1.1.Shapes : Option (List Shape_)).bind fun v8 =>
  ((((l00Src_one_b_m v3.2 2).bind fun v9 =>
  (if v9.1 = true then
  (chk ((v8.length + [(⟨2, (⟨0, 0⟩ : Spot_), (⟨0, 0⟩ : Spot_), 5, (⟨#[]⟩ : ByteArray)⟩ : Shape_)].length) * 7 * 64 ≤ 140737488355328) (
  some (v9.2, v8 ++ [(⟨2, (⟨0, 0⟩ : Spot_), (⟨0, 0⟩ : Spot_), 5, (⟨#[]⟩ : ByteArray)⟩ : Shape_)])))
  else
  some (v9.2, v8))) : Option (L00Src_ × List Shape_)).bind fun v11 =>
  some (.inr ((⟨v11.2⟩ : Drawing_), v11.1))))
  else
  some (.inl ())) : Option (Unit ⊕ (Drawing_ × L00Src_))).bind fun v12x => orE v12x fun v12 =>
  (if (v1.1.Shapes.length : Int) = 0 then
  some (v1.1, v3.2)
  else
  (((if v3.1 = 1 then
  ((l00Src_among_b_m v3.2 [0, 4, 1, 2, 3]).bind fun v13 =>
  ((atI v1.1.Shapes v2.1).bind fun v14 =>
  some (v13.2, List.set v1.1.Shapes v2.1.toNat (⟨v13.1, v14.A, v14.B, v14.R, v14.Name⟩ : Shape_))))
  else
  (if v3.1 = 2 then
  ((l00Src_among_b_m v3.2 [-100001, 100001]).bind fun v15 =>
  ((atI v1.1.Shapes v2.1).bind fun v16 =>
  some (v15.2, List.set v1.1.Shapes v2.1.toNat (⟨v16.Kind, (⟨v15.1, v16.A.Y⟩ : Spot_), v16.B, v16.R, v16.Name⟩ : Shape_))))
  else
  (if v3.1 = 3 then
  ((l00Src_among_b_m v3.2 [-1, 0, 100000, 100001]).bind fun v17 =>
  ((atI v1.1.Shapes v2.1).bind fun v18 =>
  some (v17.2, List.set v1.1.Shapes v2.1.toNat (⟨v18.Kind, v18.A, v18.B, v17.1, v18.Name⟩ : Shape_))))
  else
  (if v3.1 = 4 then
  ((l00Src_text_b_m v3.2 [(⟨#[]⟩ : ByteArray), (⟨#[85, 112]⟩ : ByteArray), (⟨#[97, 98, 99, 100, 101, 102, 103, 104, 105, 106, 107, 108, 109]⟩ : ByteArray), (⟨#[97]⟩ : ByteArray)]).bind fun v19 =>
  ((atI v1.1.Shapes v2.1).bind fun v20 =>
  some (v19.2, List.set v1.1.Shapes v2.1.toNat (⟨v20.Kind, v20.A, v20.B, v20.R, v19.1⟩ : Shape_))))
  else
  (if v3.1 = 5 then
  ((atI v1.1.Shapes v2.1).bind fun v21 =>
  ((atI v1.1.Shapes v2.1).bind fun v22 =>
  some (v3.2, List.set v1.1.Shapes v2.1.toNat (⟨v22.Kind, v22.A, (⟨v22.B.X, w64 (v21.B.Y + 1)⟩ : Spot_), v22.R, v22.Name⟩ : Shape_))))
  else
  some (v3.2, v1.1.Shapes)))))) : Option (L00Src_ × List Shape_)).bind fun v23 =>
  some ((⟨v23.2⟩ : Drawing_), v23.1)))))))

def s_DrawJoinDrawings_m (p0 : List Int) : Option (Drawing_ × Drawing_) :=
  ((s_l00From_m p0).bind fun v1 =>
  ((s_l25Bent_b_m v1).bind fun v2 =>
  ((s_l25Bent_b_m v2.2).bind fun v3 =>
  some (v2.1, v3.1))))

def slices_Grow_LShape_Shape_n_m (p1 : Int) : Option (List Shape_) :=
  (((if p1 < 0 then
  none
  else
  some ()) : Option Unit).bind fun v1 =>
  (((if 0 < (w64 (p1 - (w64 ((0 : Int) - ((0 : Nat) : Int))))) then
  (chk (0 < (w64 (p1 - (w64 ((0 : Int) - ((0 : Nat) : Int))))) ∧ (w64 (p1 - (w64 ((0 : Int) - ((0 : Nat) : Int))))).toNat * 7 * 64 ≤ 140737488355328) (
  (chk (0 ≤ ((0 : Nat) : Int) ∧ ((0 : Nat) : Int) ≤ ((List.replicate (w64 (p1 - (w64 ((0 : Int) - ((0 : Nat) : Int))))).toNat (⟨0, (⟨0, 0⟩ : Spot_), (⟨0, 0⟩ : Spot_), 0, (⟨#[]⟩ : ByteArray)⟩ : Shape_)).length : Int)) (
  some (List.take ((0 : Nat) : Int).toNat (List.replicate (w64 (p1 - (w64 ((0 : Int) - ((0 : Nat) : Int))))).toNat (⟨0, (⟨0, 0⟩ : Spot_), (⟨0, 0⟩ : Spot_), 0, (⟨#[]⟩ : ByteArray)⟩ : Shape_)))))))
  else
  some ([] : List Shape_)) : Option (List Shape_)).bind fun v4 =>
  some v4))

def slices_Concat_LShape_Shape_m (p0 : List (List Shape_)) : Option (List Shape_) :=
  ((loopM (S := Int × Int) (X := Int) (fun s4 =>
  (if s4.2 < (p0.length : Int) then
  ((((atI p0 s4.2).bind fun v5 =>
  (if (w64 (s4.1 + (v5.length : Int))) < 0 then
  none
  else
  some (w64 (s4.1 + (v5.length : Int))))) : Option Int).bind fun v6 =>
  some (.inl (v6, w64 (s4.2 + 1))))
  else
  some (.inr s4.1))) (0, 0) : Option Int).bind fun v7 =>
  ((slices_Grow_LShape_Shape_n_m v7).bind fun v8 =>
  ((loopM (S := Int × List Shape_) (X := List Shape_) (fun s12 =>
  (if s12.1 < (p0.length : Int) then
  ((atI p0 s12.1).bind fun v13 =>
  (chk ((s12.2.length + v13.length) * 7 * 64 ≤ 140737488355328) (
  some (.inl (w64 (s12.1 + 1), s12.2 ++ v13)))))
  else
  some (.inr s12.2))) (0, v8) : Option (List Shape_)).bind fun v15 =>
  some v15)))

def i_JoinDrawings_m (p0 : Drawing_) (p1 : Drawing_) : Option (Drawing_ × Int) :=
  ((((i_ValidDrawing_m p0).bind fun v1 =>
  (if (!v1) = true then
  some true
  else
  ((i_ValidDrawing_m p1).bind fun v2 =>
  some (!v2)))) : Option Bool).bind fun v3 =>
  (if v3 = true then
  some ((⟨([] : List Shape_)⟩ : Drawing_), 1)
  else
  (if 1200 < (w64 ((p0.Shapes.length : Int) + (p1.Shapes.length : Int))) then
  some ((⟨([] : List Shape_)⟩ : Drawing_), 5)
  else
  ((slices_Concat_LShape_Shape_m [p0.Shapes, p1.Shapes]).bind fun v4 =>
  some ((⟨v4⟩ : Drawing_), 0)))))

def s_JoinDrawings_m (p0 : Drawing_) (p1 : Drawing_) : Option (Drawing_ × Int) :=
  ((((s_l25Ok_m p0).bind fun v1 =>
  (if (!v1) = true then
  some true
  else
  ((s_l25Ok_m p1).bind fun v2 =>
  some (!v2)))) : Option Bool).bind fun v3 =>
  (if v3 = true then
  some ((⟨([] : List Shape_)⟩ : Drawing_), 1)
  else
  (if 1200 < (w64 ((p0.Shapes.length : Int) + (p1.Shapes.length : Int))) then
  some ((⟨([] : List Shape_)⟩ : Drawing_), 5)
  else
  (chk ((([] : List Shape_).length + p0.Shapes.length) * 7 * 64 ≤ 140737488355328) (
  (chk (((([] : List Shape_) ++ p0.Shapes).length + p1.Shapes.length) * 7 * 64 ≤ 140737488355328) (
  some ((⟨(([] : List Shape_) ++ p0.Shapes) ++ p1.Shapes⟩ : Drawing_), 0))))))))

def s_SameDrawing_m (p0 : Drawing_) (p1 : Drawing_) : Option Bool :=
  (if (p0.Shapes.length : Int) ≠ (p1.Shapes.length : Int) then
  some false
  else
  ((loopM (S := Int) (X := Unit ⊕ Bool) (fun s4 =>
  (if s4 < (p0.Shapes.length : Int) then
  ((atI p0.Shapes s4).bind fun v5 =>
  ((atI p1.Shapes s4).bind fun v6 =>
  (if v5 ≠ v6 then
  some (.inr (.inr false))
  else
  some (.inl (w64 (s4 + 1))))))
  else
  some (.inr (.inl ())))) 0 : Option (Unit ⊕ Bool)).bind fun v7x => orE v7x fun v7 =>
  some true))

def s_DrawingText_m (p0 : Drawing_) : Option ByteArray :=
  ((s_l25Ok_m p0).bind fun v1 =>
  (if (!v1) = true then
  some (⟨#[]⟩ : ByteArray)
  else
  ((s_l25Text_m p0).bind fun v2 =>
  some v2)))

def s_ValidDrawing_m (p0 : Drawing_) : Option Bool :=
  ((s_l25Ok_m p0).bind fun v1 =>
  some v1)

def s_l01Spoil_b_m (p0 : L00Src_) (p1 : ByteArray) : Option (ByteArray × L00Src_) :=
  ((((l00Src_pick_b_m p0 5).bind fun v1 =>
  (if v1.1 = 0 then
  ((l00Src_pick_b_m v1.2 (w64 ((p1.size : Int) + 1))).bind fun v2 =>
  (chk (0 ≤ (0 : Int) ∧ (0 : Int) ≤ v2.1 ∧ v2.1 ≤ (p1.size : Int)) (
  (chk (0 ≤ v2.1 ∧ v2.1 ≤ (p1.size : Int) ∧ (p1.size : Int) ≤ (p1.size : Int)) (
  ((l00Src_text_b_m v2.2 [(⟨#[32]⟩ : ByteArray), (⟨#[48]⟩ : ByteArray), (⟨#[45]⟩ : ByteArray), (⟨#[120]⟩ : ByteArray), (⟨#[49]⟩ : ByteArray), (⟨#[57]⟩ : ByteArray), (⟨#[46]⟩ : ByteArray)]).bind fun v5 =>
  (chk ((p1.extract (0 : Int).toNat v2.1.toNat).size + v5.1.size ≤ 9223372036854775807) (
  (chk (((p1.extract (0 : Int).toNat v2.1.toNat) ++ v5.1).size + (p1.extract v2.1.toNat (p1.size : Int).toNat).size ≤ 9223372036854775807) (
  some (((p1.extract (0 : Int).toNat v2.1.toNat) ++ v5.1) ++ (p1.extract v2.1.toNat (p1.size : Int).toNat), v5.2)))))))))))
  else
  (if v1.1 = 1 then
  (if p1 ≠ (⟨#[]⟩ : ByteArray) then
  ((l00Src_pick_b_m v1.2 (p1.size : Int)).bind fun v8 =>
  (chk (0 ≤ (0 : Int) ∧ (0 : Int) ≤ v8.1 ∧ v8.1 ≤ (p1.size : Int)) (
  (chk (0 ≤ (w64 (v8.1 + 1)) ∧ (w64 (v8.1 + 1)) ≤ (p1.size : Int) ∧ (p1.size : Int) ≤ (p1.size : Int)) (
  (chk ((p1.extract (0 : Int).toNat v8.1.toNat).size + (p1.extract (w64 (v8.1 + 1)).toNat (p1.size : Int).toNat).size ≤ 9223372036854775807) (
  some ((p1.extract (0 : Int).toNat v8.1.toNat) ++ (p1.extract (w64 (v8.1 + 1)).toNat (p1.size : Int).toNat), v8.2))))))))
  else
  some (p1, v1.2))
  else
  some (p1, v1.2)))) : Option (ByteArray × L00Src_)).bind fun v12 =>
  some (v12.1, v12.2))

def s_DrawReadDrawing_m (p0 : List Int) : Option ByteArray :=
  ((s_l00From_m p0).bind fun v1 =>
  ((l00Src_one_b_m v1 60).bind fun v2 =>
  (if v2.1 = true then
  ((l00Src_pick_b_m v2.2 2).bind fun v3 =>
  (chk (0 ≤ (w64 (60000 + v3.1)) ∧ (w64 (60000 + v3.1)) = (w64 (60000 + v3.1)) ∧ (w64 (60000 + v3.1)).toNat * 1 * 64 ≤ 281474976710656) (
  some (strOfNums (List.replicate (w64 (60000 + v3.1)).toNat 0)))))
  else
  ((s_l25Draw_b_m v2.2).bind fun v5 =>
  ((s_l25Text_m v5.1).bind fun v6 =>
  ((s_l01Spoil_b_m v5.2 v6).bind fun v7 =>
  some v7.1))))))

def s_DrawSameDrawing_m (p0 : List Int) : Option (Drawing_ × Drawing_) :=
  ((s_l00From_m p0).bind fun v1 =>
  ((s_l25Draw_b_m v1).bind fun v2 =>
  (chk ((([] : List Shape_).length + v2.1.Shapes.length) * 7 * 64 ≤ 140737488355328) (
  (((((if 0 < ((([] : List Shape_) ++ v2.1.Shapes).length : Int) then
  ((l00Src_one_b_m v2.2 2).bind fun v4 =>
  some (v4.1, v4.2))
  else
  some (false, v2.2)) : Option (Bool × L00Src_)).bind fun v5 =>
  (if v5.1 = true then
  ((l00Src_pick_b_m v5.2 ((([] : List Shape_) ++ v2.1.Shapes).length : Int)).bind fun v6 =>
  ((atI (([] : List Shape_) ++ v2.1.Shapes) v6.1).bind fun v7 =>
  ((l00Src_pick_b_m v6.2 2).bind fun v8 =>
  ((atI (([] : List Shape_) ++ v2.1.Shapes) v6.1).bind fun v9 =>
  some (List.set (([] : List Shape_) ++ v2.1.Shapes) v6.1.toNat (⟨v9.Kind, (⟨v9.A.X, w64 (v7.A.Y + v8.1)⟩ : Spot_), v9.B, v9.R, v9.Name⟩ : Shape_))))))
  else
  some (([] : List Shape_) ++ v2.1.Shapes))) : Option (List Shape_)).bind fun v10 =>
  some (v2.1, (⟨v10⟩ : Drawing_)))))))

def slices_Equal_LShape_Shape_m (p0 : List Shape_) (p1 : List Shape_) : Option Bool :=
  (if (p0.length : Int) ≠ (p1.length : Int) then
  some false
  else
  ((loopM (S := Int) (X := Unit ⊕ Bool) (fun s4 =>
  (if s4 < (p0.length : Int) then
  ((atI p0 s4).bind fun v5 =>
  ((atI p1 s4).bind fun v6 =>
  (if v5 ≠ v6 then
  some (.inr (.inr false))
  else
  some (.inl (w64 (s4 + 1))))))
  else
  some (.inr (.inl ())))) 0 : Option (Unit ⊕ Bool)).bind fun v7x => orE v7x fun v7 =>
  some true))

def i_SameDrawing_m (p0 : Drawing_) (p1 : Drawing_) : Option Bool :=
  ((slices_Equal_LShape_Shape_m p0.Shapes p1.Shapes).bind fun v1 =>
  some v1)

def l_FnDrawings_m (p0 : List Int) : Option Bool :=
  ((l_f6big_m p0).bind fun v1 =>
  (if v1 = true then
  some true
  else
  ((s_DrawJoinDrawings_m p0).bind fun v2 =>
  ((i_JoinDrawings_m v2.1 v2.2).bind fun v3 =>
  ((s_JoinDrawings_m v2.1 v2.2).bind fun v4 =>
  ((i_DrawingText_m v2.1).bind fun v5 =>
  ((i_DrawingText_m v2.2).bind fun v6 =>
  (((if v3.2 ≠ v4.2 then
  some true
  else
  ((s_SameDrawing_m v3.1 v4.1).bind fun v7 =>
  (if (!v7) = true then
  some true
  else
  ((s_DrawingText_m v2.1).bind fun v8 =>
  (if v5 ≠ v8 then
  some true
  else
  ((i_ValidDrawing_m v2.1).bind fun v9 =>
  ((s_ValidDrawing_m v2.1).bind fun v10 =>
  some (v9 != v10)))))))) : Option Bool).bind fun v11 =>
  (if v11 = true then
  some false
  else
  ((s_DrawReadDrawing_m p0).bind fun v12 =>
  ((i_ReadDrawing_m v12).bind fun v13 =>
  ((s_ReadDrawing_m v12).bind fun v14 =>
  ((s_DrawSameDrawing_m p0).bind fun v15 =>
  (((if (v13.2 != v14.2) = true then
  some true
  else
  ((s_SameDrawing_m v13.1 v14.1).bind fun v16 =>
  (if (!v16) = true then
  some true
  else
  ((i_SameDrawing_m v15.1 v15.2).bind fun v17 =>
  ((s_SameDrawing_m v15.1 v15.2).bind fun v18 =>
  some (v17 != v18)))))) : Option Bool).bind fun v19 =>
  (if v19 = true then
  some false
  else
  (if v3.2 ≠ 0 then
  some true
  else
  ((i_ReadDrawing_m v5).bind fun v20 =>
  (if v20.2 = true then
  ((s_SameDrawing_m v20.1 v2.1).bind fun v21 =>
  (if v21 = true then
  ((i_DrawingText_m v3.1).bind fun v22 =>
  (chk (v5.size + v6.size ≤ 9223372036854775807) (
  some (decide (v22 = (v5 ++ v6))))))
  else
  some false))
  else
  some false))))))))))))))))))

end Go.Proofs.YtjjelnpehgoagaaGreatDoor
namespace Go.Proofs.YtjjelnpehgoagaaGreatDoor
set_option linter.unusedVariables false
theorem atI_some {α : Type} {xs : List α} {i : Int} (h0 : 0 ≤ i) (h1 : i < xs.length) : ∃ e, atI xs i = some e ∧ e ∈ xs ∧ xs[i.toNat]? = some e := by
  have hl : i.toNat < xs.length := by omega
  refine ⟨xs[i.toNat], ?_, List.getElem_mem hl, List.getElem?_eq_getElem hl⟩
  unfold atI; rw [if_pos h0]; exact List.getElem?_eq_getElem hl
theorem find_ok {X : Type} {n : Nat} {g : Nat → Bool} {d : X} {e : Nat → X} {step : Int → Option (Int ⊕ X)} (hS : ∀ i : Nat, i < n → step (i : Int) = some (if g i = true then .inl ((i : Int) + 1) else .inr (e i))) (hE : step (n : Int) = some (.inr d)) (hn : n ≤ 9223372036854775807) :
    ∃ x, loopM step 0 = some x ∧ (((∀ j, j < n → g j = true) ∧ x = d) ∨ ∃ i, i < n ∧ g i = false ∧ (∀ j, j < i → g j = true) ∧ x = e i) := by
  refine loopM_of (fun (s : Int) => 0 ≤ s ∧ s ≤ n ∧ ∀ j : Nat, (j : Int) < s → g j = true) (fun (s : Int) => ((n : Int) - s).toNat) _ (fun s hI => ?_) 0 ⟨by omega, by omega, fun j hj => by omega⟩ (by omega)
  obtain ⟨q0, q1, q2⟩ := hI
  obtain ⟨i, rfl⟩ : ∃ i : Nat, s = i := ⟨s.toNat, by omega⟩
  by_cases hs : i < n
  · cases hg : g i
    · right
      exact ⟨e i, by rw [hS i hs, hg]; rfl, .inr ⟨i, hs, hg, fun j hj => q2 j (by omega), rfl⟩⟩
    · left
      refine ⟨(i : Int) + 1, by rw [hS i hs, hg]; rfl, ⟨by omega, by omega, fun j hj => ?_⟩, by omega⟩
      rcases Nat.lt_or_ge j i with h | h
      · exact q2 j (by omega)
      · have : j = i := by omega
        rw [this]; exact hg
  · right
    have : i = n := by omega
    subst this
    exact ⟨d, hE, .inl ⟨fun j hj => q2 j (by omega), rfl⟩⟩
theorem scan_ok {X : Type} {n : Nat} {g : Nat → Bool} {d e : X} {step : Int → Option (Int ⊕ X)} (hS : ∀ i : Nat, i < n → step (i : Int) = some (if g i = true then .inl ((i : Int) + 1) else .inr e)) (hE : step (n : Int) = some (.inr d)) (hn : n ≤ 9223372036854775807) :
    loopM step 0 = some (if (List.range n).all g = true then d else e) := by
  obtain ⟨x, hx, ⟨h, rfl⟩ | ⟨i, hi, hg, _, rfl⟩⟩ := find_ok (e := fun _ => e) hS hE hn
  · rw [hx, if_pos (by simpa using h)]
  · rw [hx, if_neg (by simp only [List.all_eq_true, List.mem_range]; intro h; rw [h i hi] at hg; cases hg)]
theorem atI_lt {α : Type} {xs : List α} {i : Nat} (h : i < xs.length) : atI xs (i : Int) = some xs[i] := by rw [atI_nat]; exact List.getElem?_eq_getElem h
theorem all_range {α : Type} {xs : List α} {f : α → Bool} {g : Nat → Bool} (h : ∀ (i : Nat) (hi : i < xs.length), g i = f xs[i]) : (List.range xs.length).all g = xs.all f := by
  rw [Bool.eq_iff_iff, List.all_eq_true, List.all_eq_true]
  constructor
  · intro q v hv
    obtain ⟨i, hi, rfl⟩ := List.getElem_of_mem hv
    rw [← h i hi]; exact q i (List.mem_range.2 hi)
  · intro q i hi
    have hi := List.mem_range.1 hi
    rw [h i hi]; exact q _ (List.getElem_mem hi)
theorem scanL_ok {α X : Type} {xs : List α} {f : α → Bool} {d e : X} {step : Int → Option (Int ⊕ X)} (hS : ∀ (i : Nat) (hi : i < xs.length), step (i : Int) = some (if f xs[i] = true then .inl ((i : Int) + 1) else .inr e)) (hE : step (xs.length : Int) = some (.inr d)) (hn : xs.length ≤ 9223372036854775807) :
    loopM step 0 = some (if xs.all f = true then d else e) := by
  rw [scan_ok (n := xs.length) (d := d) (e := e) (g := fun i => if hi : i < xs.length then f xs[i] else true) (fun i hi => by rw [hS i hi]; simp [hi]) hE hn, all_range (f := f) fun i hi => by simp [hi]]
theorem index_ok {α : Type} {xs : List α} {p : α → Bool} {step : Int → Option (Int ⊕ (Unit ⊕ Int))} (hS : ∀ (i : Nat) (hi : i < xs.length), step (i : Int) = some (if p xs[i] = true then .inr (.inr (i : Int)) else .inl ((i : Int) + 1))) (hE : step (xs.length : Int) = some (.inr (.inl ()))) (hn : xs.length ≤ 9223372036854775807) :
    ∃ x, loopM step 0 = some x ∧ ((xs.any p = false ∧ x = .inl ()) ∨ (xs.any p = true ∧ ∃ i : Int, 0 ≤ i ∧ x = .inr i)) := by
  obtain ⟨x, hx, h⟩ := find_ok (X := Unit ⊕ Int) (step := step) (n := xs.length) (g := fun i => if hi : i < xs.length then !p xs[i] else true) (d := .inl ()) (e := fun i => .inr (i : Int)) (fun i hi => by rw [hS i hi]; cases h : p xs[i] <;> simp [hi, h]) hE hn
  refine ⟨x, hx, ?_⟩
  rcases h with ⟨h, rfl⟩ | ⟨i, hi, hg, _, rfl⟩
  · left
    refine ⟨?_, rfl⟩
    rw [← Bool.not_eq_true, List.any_eq_true]
    rintro ⟨v, hv, hp⟩
    obtain ⟨i, hi, rfl⟩ := List.getElem_of_mem hv
    have := h i hi
    simp [hi, hp] at this
  · right
    simp only [hi, dite_true, Bool.not_eq_false'] at hg
    exact ⟨List.any_eq_true.2 ⟨xs[i], List.getElem_mem hi, hg⟩, _, by omega, rfl⟩
theorem buildF_ok {α β : Type} {xs : List α} {f : α → List β} {c : Nat} {init : List β} {step : Int × List β → Option ((Int × List β) ⊕ List β)} (hc : ∀ v ∈ xs, (f v).length ≤ c) (hS : ∀ (i : Nat) (hi : i < xs.length) ys, ys.length ≤ init.length + c * i → step ((i : Int), ys) = some (.inl ((i : Int) + 1, ys ++ f xs[i]))) (hE : ∀ ys, step ((xs.length : Int), ys) = some (.inr ys)) (hn : xs.length ≤ 9223372036854775807) :
    loopM step (0, init) = some (init ++ xs.flatMap f) := by
  refine loopM_eq (fun (s : Int × List β) => 0 ≤ s.1 ∧ s.1 ≤ xs.length ∧ s.2 = init ++ (xs.take s.1.toNat).flatMap f ∧ s.2.length ≤ init.length + c * s.1.toNat) (fun (s : Int × List β) => ((xs.length : Int) - s.1).toNat) (fun s hI => ?_) (by simp) (by simp; omega)
  obtain ⟨i, ys⟩ := s
  obtain ⟨q0, q1, q2, q3⟩ := hI
  dsimp only at q0 q1 q2 q3 ⊢
  obtain ⟨j, rfl⟩ : ∃ j : Nat, i = j := ⟨i.toNat, by omega⟩
  have e2 : ((j : Int)).toNat = j := by omega
  rw [e2] at q2 q3
  by_cases hs : j < xs.length
  · left
    have e : ((j : Int) + 1).toNat = j + 1 := by omega
    refine ⟨_, hS j hs ys q3, ⟨by dsimp only; omega, by dsimp only; omega, ?_, ?_⟩, by dsimp only; omega⟩
    · dsimp only
      rw [e, q2, List.take_succ_eq_append_getElem hs, List.flatMap_append, ← List.append_assoc]; simp
    · dsimp only
      rw [e, List.length_append, Nat.mul_add]
      have := hc xs[j] (List.getElem_mem hs)
      omega
  · right
    have : j = xs.length := by omega
    subst this
    rw [hE ys, q2, List.take_length]
end Go.Proofs.YtjjelnpehgoagaaGreatDoor
namespace Go.Proofs.YtjjelnpehgoagaaGreatDoor
set_option linter.unusedVariables false
def btw (x a b : Int) : Bool := decide (a ≤ x ∧ x ≤ b)
theorem i_within_eq (x a b : Int) : i_within_m x a b = some (btw x a b) := by unfold i_within_m btw; split <;> simp_all <;> omega
theorem s_l00In_eq (x a b : Int) : s_l00In_m x a b = some (btw x a b) := by unfold s_l00In_m btw; split <;> simp_all <;> omega
structure SinOk (r k n : Int) : Prop where
  p0 : 0 ≤ 2 * k * (n - 2 * k)
  p1 : 2 * k * (n - 2 * k) ≤ 64000000
  r0 : 0 ≤ r * 16 * (2 * k * (n - 2 * k))
  r1 : r * 16 * (2 * k * (n - 2 * k)) ≤ 102400000000000
  n0 : 1 ≤ 5 * n * n - 4 * (2 * k * (n - 2 * k))
  n1 : 5 * n * n ≤ 1280000000
end Go.Proofs.YtjjelnpehgoagaaGreatDoor
namespace Go.Proofs.YtjjelnpehgoagaaGreatDoor
set_option linter.unusedVariables false
def smB (c : Int) : Bool := decide (97 ≤ c ∧ c ≤ 122)
def dgB (c : Int) : Bool := decide (48 ≤ c ∧ c ≤ 57)
def okB (c : Int) : Bool := smB c || (dgB c || decide (c = 45))
theorem strAt_bytes (s : ByteArray) (i : Int) : strAt s i = atI (bytesL s) i := by
  unfold strAt atI bytesL
  split
  · rename_i h
    rw [List.getElem?_map]
    congr 1
    rw [Array.getElem?_toList]
    by_cases hi : i.toNat < s.size
    · rw [getElem?_pos s i.toNat hi, getElem?_pos s.data i.toNat hi]; rfl
    · rw [getElem?_neg s i.toNat hi, getElem?_neg s.data i.toNat hi]
  · rfl
def nameB (s : ByteArray) : Bool := decide (1 ≤ s.size ∧ s.size ≤ 12) && ((bytesL s).take 1).all smB && (bytesL s).all okB
theorem s_l01Small_eq (c : Int) : s_l01Small_m c = some (smB c) := by unfold s_l01Small_m smB; split <;> simp_all <;> omega
theorem s_l01Digit_eq (c : Int) : s_l01Digit_m c = some (dgB c) := by unfold s_l01Digit_m dgB; split <;> simp_all <;> omega
theorem str0 {s : ByteArray} : s = ⟨#[]⟩ ↔ s.size = 0 := by
  constructor
  · rintro rfl; rfl
  · intro h
    cases s with | mk d =>
    have : d = #[] := Array.eq_empty_of_size_eq_zero h
    rw [this]
theorem s_IsName_eq (s : ByteArray) : s_IsName_m s = some (nameB s) := by
  have hl := bytesL_len s
  unfold s_IsName_m nameB
  by_cases h0 : s = ⟨#[]⟩
  · have := str0.1 h0
    simp [h0]
    intro h; exact absurd h (by decide)
  · have h1 : s.size ≠ 0 := fun h => h0 (str0.2 h)
    rw [if_neg h0]
    by_cases h2 : 12 < (s.size : Int)
    · rw [if_pos h2]
      simp
      intro a b; omega
    · rw [if_neg h2]
      obtain ⟨c, cs, hc⟩ : ∃ c cs, bytesL s = c :: cs := by
        cases hb : bytesL s with
        | nil => rw [hb] at hl; simp at hl; omega
        | cons c cs => exact ⟨c, cs, rfl⟩
      have e0 : strAt s 0 = some c := by rw [strAt_bytes, hc]; rfl
      rw [e0]
      simp only [Option.bind_some, s_l01Small_eq]
      have ht : ((bytesL s).take 1).all smB = smB c := by rw [hc]; simp
      have hd : decide (1 ≤ s.size ∧ s.size ≤ 12) = true := decide_eq_true ⟨by omega, by omega⟩
      rw [ht, hd]
      cases hs : smB c
      · simp
      · simp only [Bool.not_true, Bool.false_eq_true, if_false, Bool.true_and]
        have hz : (s.size : Int) = ((bytesL s).length : Int) := by rw [hl]
        rw [hz, scanL_ok (xs := bytesL s) (f := okB) (d := .inl ()) (e := .inr false) (fun i hi => ?_) (by simp) (by omega)]
        · cases (bytesL s).all okB <;> simp [orE]
        · have hi' : (i : Int) < ((bytesL s).length : Int) := by omega
          have e1 : w64 ((i : Int) + 1) = i + 1 := w64_in (by omega) (by omega)
          rw [if_pos hi', strAt_bytes, atI_lt hi]
          simp only [Option.bind_some, s_l01Small_eq, s_l01Digit_eq, e1, okB]
          generalize (bytesL s)[i] = c
          rcases Bool.eq_false_or_eq_true (smB c) with g1 | g1 <;> rcases Bool.eq_false_or_eq_true (dgB c) with g2 | g2 <;> by_cases h45 : c = 45 <;> simp [g1, g2, h45]
theorem i_IsName_eq (s : ByteArray) : i_IsName_m s = some (nameB s) := by
  have hl := bytesL_len s
  unfold i_IsName_m nameB
  by_cases h1 : (s.size : Int) < 1
  · rw [if_pos h1]; simp
    intro a b; omega
  · rw [if_neg h1]
    by_cases h2 : 12 < (s.size : Int)
    · simp [h2]
      intro a b; omega
    · have hd : decide (1 ≤ s.size ∧ s.size ≤ 12) = true := decide_eq_true ⟨by omega, by omega⟩
      simp only [h2, decide_false, Option.bind_some, Bool.false_eq_true, if_false, hd, Bool.true_and]
      rw [chk_t (by omega), scan_ok (n := (bytesL s).length) (d := .inl ()) (e := .inr false) (g := fun i => smB ((bytesL s).getD i 0) || (decide (i ≠ 0) && (dgB ((bytesL s).getD i 0) || decide ((bytesL s).getD i 0 = 45)))) (fun i hi => ?_) (by simp) (by omega)]
      · obtain ⟨c, cs, hc⟩ : ∃ c cs, bytesL s = c :: cs := by
          cases hb : bytesL s with
          | nil => rw [hb] at hl; simp at hl; omega
          | cons c cs => exact ⟨c, cs, rfl⟩
        have key : (List.range (bytesL s).length).all (fun i => smB ((bytesL s).getD i 0) || (decide (i ≠ 0) && (dgB ((bytesL s).getD i 0) || decide ((bytesL s).getD i 0 = 45)))) = (((bytesL s).take 1).all smB && (bytesL s).all okB) := by
          rw [hc]
          simp only [List.length_cons, List.range_succ_eq_map, List.all_cons, List.all_map, List.take_succ_cons, List.take_zero, List.all_nil, Bool.and_true]
          have : (List.range cs.length).all ((fun i => smB ((c :: cs).getD i 0) || (decide (i ≠ 0) && (dgB ((c :: cs).getD i 0) || decide ((c :: cs).getD i 0 = 45)))) ∘ Nat.succ) = cs.all okB := all_range (f := okB) fun i hi => by simp [okB, hi]
          rw [this]
          simp [okB]
          cases smB c <;> simp
        rw [key]
        cases ((bytesL s).take 1).all smB && (bytesL s).all okB <;> simp [orE]
      · have hi' : (i : Int) < ((bytesL s).length : Int) := by omega
        have e1 : w64 ((i : Int) + 1) = i + 1 := w64_in (by omega) (by omega)
        have e2 : (bytesL s).getD i 0 = (bytesL s)[i] := by simp [hi]
        rw [if_pos hi', atI_lt hi, e2]
        simp only [Option.bind_some, e1]
        generalize (bytesL s)[i] = c
        have A : (if 97 ≤ c then some (decide (c ≤ 122)) else some false) = some (smB c) := by unfold smB; split <;> simp_all <;> omega
        have B : (if 48 ≤ c then (if c ≤ 57 then some true else some (decide (c = 45))) else some (decide (c = 45))) = some (dgB c || decide (c = 45)) := by
          unfold dgB
          split
          · split <;> simp_all <;> omega
          · simp_all; omega
        rw [A, B]
        simp only [Option.bind_some]
        have hz : ((i : Int) = 0) ↔ i = 0 := by omega
        cases smB c <;> cases (dgB c || decide (c = 45)) <;> by_cases h0 : i = 0 <;> simp [h0]
end Go.Proofs.YtjjelnpehgoagaaGreatDoor
namespace Go.Proofs.YtjjelnpehgoagaaGreatDoor
set_option linter.unusedVariables false
def spB (s : Spot_) : Bool := btw s.X (-100000) 100000 && btw s.Y (-100000) 100000
def shB (s : Shape_) : Bool := spB s.A && (if s.Kind = 1 then spB s.B && (decide (s.R = 0) && decide (s.Name = ⟨#[]⟩)) else if s.Kind = 2 then decide (s.B = ⟨0, 0⟩) && (btw s.R 1 100000 && decide (s.Name = ⟨#[]⟩)) else if s.Kind = 3 then decide (s.B = ⟨0, 0⟩) && (decide (s.R = 0) && nameB s.Name) else false)
def drB (x : Drawing_) : Bool := decide (x.Shapes.length ≤ 1200) && x.Shapes.all shB
theorem s_l25Spot_eq (s : Spot_) : s_l25Spot_m s = some (spB s) := by
  unfold s_l25Spot_m spB
  simp only [s_l00In_eq, Option.bind_some]
  cases btw s.X (-100000) 100000 <;> simp
theorem i_validSpot_eq (s : Spot_) : i_validSpot_m s = some (spB s) := by
  unfold i_validSpot_m spB
  simp only [i_within_eq, Option.bind_some]
  cases btw s.X (-100000) 100000 <;> simp
theorem s_l25Shape_eq (s : Shape_) : s_l25Shape_m s = some (shB s) := by
  unfold s_l25Shape_m shB
  simp only [s_l25Spot_eq, s_l00In_eq, s_IsName_eq, Option.bind_some]
  cases spB s.A
  · simp
  · by_cases h1 : s.Kind = 1
    · cases spB s.B <;> by_cases h2 : s.R = 0 <;> simp [h1, h2]
    · by_cases h2 : s.Kind = 2
      · by_cases h3 : s.B = (⟨0, 0⟩ : Spot_) <;> cases btw s.R 1 100000 <;> simp [h2, h3]
      · by_cases h3 : s.Kind = 3
        · by_cases h4 : s.B = (⟨0, 0⟩ : Spot_) <;> by_cases h5 : s.R = 0 <;> simp [h3, h4, h5]
        · simp [h1, h2, h3]
theorem i_validShape_eq (s : Shape_) : i_validShape_m s = some (shB s) := by
  obtain ⟨K, A, B, R, N⟩ := s
  unfold i_validShape_m shB
  simp only [i_validSpot_eq, i_within_eq, i_IsName_eq, i_line_m, i_circle_m, i_label_m, Option.bind_some]
  cases spB A
  · simp
  · by_cases h1 : K = 1
    · cases spB B <;> simp [h1]
    · by_cases h2 : K = 2
      · cases btw R 1 100000 <;> simp [h2]
      · by_cases h3 : K = 3
        · cases nameB N <;> simp [h3]
        · simp [h1, h2, h3]
theorem s_l25Ok_eq {x : Drawing_} (hl : x.Shapes.length ≤ 9223372036854775807) : s_l25Ok_m x = some (drB x) := by
  unfold s_l25Ok_m drB
  rw [scanL_ok (xs := x.Shapes) (f := shB) (d := .inl ()) (e := .inr false) (fun i hi => ?_) (by simp) hl]
  · cases x.Shapes.all shB <;> simp [orE]; omega
  · have e1 : w64 ((i : Int) + 1) = i + 1 := w64_in (by omega) (by omega)
    have hi' : (i : Int) < x.Shapes.length := by omega
    simp only [if_pos hi', atI_lt hi, Option.bind_some, s_l25Shape_eq, e1]
    rcases Bool.eq_false_or_eq_true (shB x.Shapes[i]) with h | h <;> simp [h]
theorem i_ValidDrawing_eq (x : Drawing_) : i_ValidDrawing_m x = some (drB x) := by
  unfold i_ValidDrawing_m drB
  by_cases hl : (x.Shapes.length : Int) ≤ 1200
  · rw [if_pos hl, decide_eq_true (show x.Shapes.length ≤ 1200 by omega)]
    unfold slices_ContainsFunc_LShape_Shape_i_ValidDrawing_1_m slices_IndexFunc_LShape_Shape_i_ValidDrawing_1_m
    obtain ⟨y, hy, h⟩ := index_ok (xs := x.Shapes) (p := fun v => !shB v) (step := fun s4 => (if s4 < (x.Shapes.length : Int) then ((atI x.Shapes s4).bind fun v5 => ((i_ValidDrawing_1_m v5).bind fun v6 => (if v6 = true then some (.inr (.inr s4)) else some (.inl (w64 (s4 + 1)))))) else some (.inr (.inl ()))))
      (fun i hi => by
        have e1 : w64 ((i : Int) + 1) = i + 1 := w64_in (by omega) (by omega)
        have hi' : (i : Int) < x.Shapes.length := by omega
        simp only [if_pos hi', atI_lt hi, Option.bind_some, i_ValidDrawing_1_m, i_validShape_eq, e1]
        rcases Bool.eq_false_or_eq_true (shB x.Shapes[i]) with h | h <;> simp [h]) (by simp) (by omega)
    rw [hy]
    have e : x.Shapes.all shB = !(x.Shapes.any fun v => !shB v) := by
      rw [Bool.eq_iff_iff]; simp
    rw [e]
    rcases h with ⟨h, rfl⟩ | ⟨h, i, hi, rfl⟩
    · simp only [h, Option.bind_some, orE]; simp
    · simp only [h, Option.bind_some, orE]; simp [hi]
  · rw [if_neg hl, decide_eq_false (by omega)]; rfl
theorem drB_len {x : Drawing_} (h : drB x = true) : x.Shapes.length ≤ 1200 := by
  unfold drB at h
  simp only [Bool.and_eq_true, decide_eq_true_eq] at h
  exact h.1
end Go.Proofs.YtjjelnpehgoagaaGreatDoor
namespace Go.Proofs.YtjjelnpehgoagaaGreatDoor
set_option linter.unusedVariables false
def Ok {α : Type} (m : Option α) (P : α → Prop) : Prop := ∃ x, m = some x ∧ P x
theorem ok_some {α : Type} {x : α} {P : α → Prop} (h : P x) : Ok (some x) P := ⟨x, rfl, h⟩
theorem ok_bind {α β : Type} {m : Option α} {f : α → Option β} {P : α → Prop} {Q : β → Prop} (h : Ok m P) (k : ∀ x, P x → Ok (f x) Q) : Ok (m.bind f) Q := by
  obtain ⟨x, rfl, hx⟩ := h
  exact k x hx
theorem ok_ite {α : Type} {p : Prop} [Decidable p] {a b : Option α} {P : α → Prop} (h : p → Ok a P) (k : ¬ p → Ok b P) : Ok (if p then a else b) P := by
  split
  · exact h ‹_›
  · exact k ‹_›
theorem ok_chk {α : Type} {p : Prop} [Decidable p] {a : Option α} {P : α → Prop} (hp : p) (h : Ok a P) : Ok (chk p a) P := by rw [chk_t hp]; exact h
theorem ok_atI {α : Type} {xs : List α} {i : Int} (h0 : 0 ≤ i) (h1 : i < xs.length) : Ok (atI xs i) (fun e => e ∈ xs ∧ xs[i.toNat]? = some e) := by
  obtain ⟨e, h, hm, hg⟩ := atI_some h0 h1
  exact ⟨e, h, hm, hg⟩
theorem ok_loop {S X : Type} {step : S → Option (S ⊕ X)} {P : X → Prop} (I : S → Prop) (m : S → Nat) (hs : ∀ s, I s → Ok (step s) (fun y => (∃ s', y = .inl s' ∧ I s' ∧ m s' < m s) ∨ ∃ x, y = .inr x ∧ P x)) (s0 : S) (h0 : I s0) (hm : m s0 < 1180591620717411303424) : Ok (loopM step s0) P :=
  loopM_of I m P (fun s hI => by
    obtain ⟨y, e, ⟨s', rfl, h1, h2⟩ | ⟨x, rfl, h1⟩⟩ := hs s hI
    · exact .inl ⟨s', e, h1, h2⟩
    · exact .inr ⟨x, e, h1⟩) s0 h0 hm
end Go.Proofs.YtjjelnpehgoagaaGreatDoor
namespace Go.Proofs.YtjjelnpehgoagaaGreatDoor
set_option linter.unusedVariables false
def srcOk (n : Int) (s : L00Src_) : Prop := 0 ≤ s.at_ ∧ s.at_ ≤ n ∧ s.code.length ≤ 1000000 ∧ ∀ b ∈ s.code, 0 ≤ b ∧ b ≤ 255
theorem and255 (x : Int) : 0 ≤ andK .u64 x 255 ∧ andK .u64 x 255 ≤ 255 := by
  unfold andK
  have h : (BitVec.ofInt IntKind.u64.bits x &&& BitVec.ofInt IntKind.u64.bits 255).toNat ≤ 255 := by
    rw [BitVec.toNat_and]
    have : (BitVec.ofInt IntKind.u64.bits 255).toNat = 255 := by decide
    rw [this]
    exact Nat.and_le_right
  generalize (BitVec.ofInt IntKind.u64.bits x &&& BitVec.ofInt IntKind.u64.bits 255).toNat = v at h
  have e : IntKind.u64.wrap (v : Int) = v := by
    unfold IntKind.wrap
    simp [IntKind.bits, IntKind.signed]
    omega
  rw [e]; omega
theorem from_ok {c : List Int} (h1 : c.length ≤ 1000000) (h2 : ∀ b ∈ c, 0 ≤ b ∧ b ≤ 255) : Ok (s_l00From_m c) (srcOk 0) := ok_some ⟨by simp, by simp, h1, h2⟩
theorem next_ok {n : Int} {s : L00Src_} (h : srcOk n s) (hn : n ≤ 1000000000000) : Ok (l00Src_next_b_m s) (fun r => 0 ≤ r.1 ∧ r.1 ≤ 255 ∧ srcOk (n + 1) r.2) := by
  obtain ⟨h0, h1, h2, h3⟩ := h
  unfold l00Src_next_b_m
  refine ok_bind (P := fun v => 0 ≤ v ∧ v ≤ 255) ?_ fun v hv => ?_
  · refine ok_ite (fun hc => ?_) fun _ => ok_some (by omega)
    refine ok_bind (ok_atI h0 hc) fun e he => ok_some ?_
    have := h3 e he.1
    rw [w64_in (by omega) (by omega)]; exact this
  · have e1 : w64 (s.at_ + 1) = s.at_ + 1 := w64_in (by omega) (by omega)
    rw [e1]
    refine ok_ite (fun _ => ok_some ⟨hv.1, hv.2, by dsimp only; omega, by dsimp only; omega, h2, h3⟩) fun _ => ok_some ⟨?_, ?_, by dsimp only; omega, by dsimp only; omega, h2, h3⟩
    · have := and255 (shrK .u64 (IntKind.u64.wrap ((IntKind.u64.wrap ((IntKind.u64.wrap (s.seed * 6364136223846793005)) + (IntKind.u64.wrap v))) + 1442695040888963407)) 40)
      dsimp only
      rw [w64_in (by omega) (by omega)]; omega
    · have := and255 (shrK .u64 (IntKind.u64.wrap ((IntKind.u64.wrap ((IntKind.u64.wrap (s.seed * 6364136223846793005)) + (IntKind.u64.wrap v))) + 1442695040888963407)) 40)
      dsimp only
      rw [w64_in (by omega) (by omega)]; omega
theorem srcOk_le {n m : Int} {s : L00Src_} (h : srcOk n s) (hm : n ≤ m) : srcOk m s := ⟨h.1, by have := h.2.1; omega, h.2.2⟩
theorem pick_ok {n : Int} {s : L00Src_} {k : Int} (h : srcOk n s) (hn : n ≤ 1000000000) : Ok (l00Src_pick_b_m s k) (fun r => 0 ≤ r.1 ∧ (r.1 < k ∨ r.1 = 0) ∧ r.1 ≤ 65535 ∧ srcOk (n + 2) r.2) := by
  unfold l00Src_pick_b_m
  refine ok_ite (fun _ => ok_some ⟨by simp, by simp, by simp, srcOk_le h (by omega)⟩) fun hk => ?_
  refine ok_bind (next_ok h (by omega)) fun v hv => ?_
  refine ok_bind (P := fun r => 0 ≤ r.1 ∧ r.1 ≤ 65535 ∧ srcOk (n + 2) r.2) ?_ fun r hr => ?_
  · refine ok_ite (fun _ => ?_) fun _ => ok_some ⟨hv.1, by have := hv.2.1; dsimp only; omega, srcOk_le hv.2.2 (by omega)⟩
    refine ok_bind (next_ok hv.2.2 (by omega)) fun u hu => ok_some ?_
    have a := hv.1; have b := hv.2.1; have c := hu.1; have d := hu.2.1
    dsimp only
    rw [w64_in (x := v.1 * 256) (by omega) (by omega), w64_in (by omega) (by omega)]
    exact ⟨by omega, by omega, by have := hu.2.2; rwa [Int.add_assoc] at this⟩
  · refine ok_chk (by omega) (ok_some ?_)
    have e : r.1.tmod k = r.1 % k := Int.tmod_eq_emod_of_nonneg hr.1
    have h1 := Int.emod_nonneg r.1 (show k ≠ 0 by omega)
    have h2 := Int.emod_lt_of_pos r.1 (show 0 < k by omega)
    have h3 : r.1 % k ≤ r.1 := by
      have := Int.mul_nonneg (show 0 ≤ k by omega) (Int.ediv_nonneg hr.1 (show 0 ≤ k by omega))
      rw [Int.emod_def]; omega
    dsimp only
    rw [e]
    exact ⟨h1, .inl h2, by have := hr.2.1; omega, hr.2.2⟩
theorem one_ok {n : Int} {s : L00Src_} {k : Int} (h : srcOk n s) (hn : n ≤ 1000000000) : Ok (l00Src_one_b_m s k) (fun r => srcOk (n + 2) r.2) :=
  ok_bind (pick_ok h hn) fun r hr => ok_some hr.2.2.2
theorem among_ok {n : Int} {s : L00Src_} {xs : List Int} (h : srcOk n s) (hn : n ≤ 1000000000) (hx : 0 < xs.length) : Ok (l00Src_among_b_m s xs) (fun r => r.1 ∈ xs ∧ srcOk (n + 2) r.2) := by
  refine ok_bind (pick_ok h hn) fun r hr => ?_
  refine ok_bind (ok_atI hr.1 ?_) fun e he => ok_some ⟨he.1, hr.2.2.2⟩
  rcases hr.2.1 with h1 | h1
  · exact h1
  · rw [h1]; omega
theorem text_ok {n : Int} {s : L00Src_} {xs : List ByteArray} (h : srcOk n s) (hn : n ≤ 1000000000) (hx : 0 < xs.length) : Ok (l00Src_text_b_m s xs) (fun r => r.1 ∈ xs ∧ srcOk (n + 2) r.2) := by
  refine ok_bind (pick_ok h hn) fun r hr => ?_
  refine ok_bind (ok_atI hr.1 ?_) fun e he => ok_some ⟨he.1, hr.2.2.2⟩
  rcases hr.2.1 with h1 | h1
  · exact h1
  · rw [h1]; omega
end Go.Proofs.YtjjelnpehgoagaaGreatDoor
