/- Texts of this claim, one behind the other (merged by a program of mine). -/
import Derived.Test.YtlakbomkpnlidaaGreatRows
import Derived.ProofKit
import Derived.OpenShut
import Derived.ShutString
import Derived.ChangeOld
import Derived.Below
import Derived.Deep.Slices
import Derived.Test.YtlakbomkpnlidaaGreatProg
import Derived.Test.YtlakbomkpnlidaaGreatGR3
set_option linter.unusedSimpArgs false
set_option linter.unusedVariables false
namespace Go.Proofs.YtlakbomkpnlidaaGreat
open Go.ChangeShapes Go.WideShapes Go.ChangeAt Go.RowKit
open Go.ChangeMaps (open_string shut_string)
set_option maxRecDepth 100000

theorem own : ownKnob Tryz.prog.godebug = none := by kernel_rfl
theorem laidOut : laidOutB Tryz.prog = true := by kernel_rfl

end Go.Proofs.YtlakbomkpnlidaaGreat
namespace Go.Proofs.YtlakbomkpnlidaaGreat
open Go.ChangeShapes Go.WideShapes Go.ChangeAt Go.RowKit Go.Deep
set_option linter.unusedVariables false
set_option maxRecDepth 100000
theorem cell_ltA {w : World} {a : Addr} {v : Value} (h : w.cell? a = some v) : a.block < w.heap.size := by
  unfold World.cell? at h
  cases hb : w.heap[a.block]? with
  | none => simp [hb] at h
  | some b => exact (Array.getElem?_eq_some_iff.1 hb).1
def RepL (w : World) (cs : List Value) (ds : List DV) : Prop := cs.length = ds.length ∧ ∀ (j : Nat) v x, cs[j]? = some v → ds[j]? = some x → DRep w (fun b => b < w.heap.size) v x
theorem repL_nil {w : World} : RepL w [] [] := ⟨rfl, fun j v x h => by simp at h⟩
theorem repL_cons {w : World} {v : Value} {x : DV} {cs : List Value} {ds : List DV} (h : DRep w (fun b => b < w.heap.size) v x) (k : RepL w cs ds) : RepL w (v :: cs) (x :: ds) := by
  refine ⟨by simp [k.1], fun j a b h1 h2 => ?_⟩
  cases j with
  | zero => simp at h1 h2; subst h1 h2; exact h
  | succ j => simp at h1 h2; exact k.2 j a b h1 h2
theorem repL_app {w : World} {cs : List Value} {ds : List DV} {cs2 : List Value} {ds2 : List DV} (h : RepL w cs ds) (k : RepL w cs2 ds2) : RepL w (cs ++ cs2) (ds ++ ds2) := by
  refine ⟨by simp [h.1, k.1], fun j a b h1 h2 => ?_⟩
  rw [List.getElem?_append] at h1 h2
  rw [← h.1] at h2
  split at h1
  · rename_i hj; rw [if_pos hj] at h2; exact h.2 j a b h1 h2
  · rename_i hj; rw [if_neg hj] at h2; exact k.2 _ a b h1 h2
theorem repL_int {w : World} (k : IntKind) (z : Int) : DRep w (fun b => b < w.heap.size) (.int k z) (.v (.int k z)) := .v _ rfl
theorem repL_str {w : World} (s : ByteArray) : DRep w (fun b => b < w.heap.size) (.string s) (.v (.string s)) := .v _ rfl
theorem repL_bool {w : World} (s : Bool) : DRep w (fun b => b < w.heap.size) (.bool s) (.v (.bool s)) := .v _ rfl
theorem agg_rep {w : World} {μ : Places} {h : Heap} {cs : Array Value} {ds : List DV} (r : RepL w cs.toList ds) : ARep w (fun b => b < w.heap.size) μ h (.agg cs) (.agg (ds.map .d)) := by
  refine .agg _ _ (by simpa using r.1) fun i v c h1 h2 => ?_
  rw [List.getElem?_map] at h2
  obtain ⟨x, hx, rfl⟩ := Option.map_eq_some_iff.1 h2
  exact .d _ _ (r.2 i v x (by simpa using h1) hx)
theorem args_nil {w : World} : ∀ (i : Nat) v a, (List.toArray ([] : List Value))[i]? = some v → ([] : List AV)[i]? = some a → ARep w (fun b => b < w.heap.size) (fun _ _ => none) (lks []) v a := fun i v a h => by simp at h
theorem args_cons {w : World} {v0 : Value} {a0 : AV} {vs : List Value} {bs : List AV} (h : ARep w (fun b => b < w.heap.size) (fun _ _ => none) (lks []) v0 a0) (k : ∀ (i : Nat) v a, vs.toArray[i]? = some v → bs[i]? = some a → ARep w (fun b => b < w.heap.size) (fun _ _ => none) (lks []) v a) :
    ∀ (i : Nat) v a, (v0 :: vs).toArray[i]? = some v → (a0 :: bs)[i]? = some a → ARep w (fun b => b < w.heap.size) (fun _ _ => none) (lks []) v a := fun i v a h1 h2 => by
  cases i with
  | zero => simp at h1 h2; subst h1 h2; exact h
  | succ i =>
    simp at h1 h2
    exact k i v a (by simpa using h1) h2
theorem int_rep {w : World} {μ : Places} {h : Heap} {F : Nat → Prop} (k : IntKind) (z : Int) : ARep w F μ h (.int k z) (.d (.v (.int k z))) := .d _ _ (.v _ rfl)
section
variable {H : Type} {enc : TypeId × Value → H} {W : World} {b0 : Nat} {spare : Nat → Bool} {held : Bool} {fuel : Nat} {cs : List Value} {x : DataW H × List MemPlace}
theorem fieldR {P : Program} {t : TypeId} {fs : Array Field} (ht : P.underlying t = some (.struct fs)) (h : DataW.trod enc P W b0 spare held fuel t cs = some x) (i : Nat) (T : TypeId) (sub : List Value)
    (hk : (fs[i]?).map (fun f => (f.type, (cs.drop f.offset).take (P.cellsOf f.type))) = some (T, sub)) : ∃ n y, DataW.trod enc P W b0 spare held n T sub = some y := by
  obtain ⟨xs, n, _, _, hl, hxl, hf⟩ := DataW.trod_struct ht h
  cases hfi : fs[i]? with
  | none => rw [hfi] at hk; cases hk
  | some f =>
    rw [hfi] at hk
    simp only [Option.map_some, Option.some.injEq, Prod.mk.injEq] at hk
    obtain ⟨rfl, rfl⟩ := hk
    have hi : i < fs.size := (Array.getElem?_eq_some_iff.1 hfi).1
    refine ⟨n, xs[i]'(by omega), (hf i f hfi).trans (List.getElem?_eq_getElem (by omega))⟩
theorem cellsR {P : Program} {t : TypeId} {fs : Array Field} (ht : P.underlying t = some (.struct fs)) (h : DataW.trod enc P W b0 spare held fuel t cs = some x) : cs.length = P.cellsOf t := by
  obtain ⟨xs, n, _, _, hl, hxl, hf⟩ := DataW.trod_struct ht h
  exact hl
theorem sliceA {P : Program} {t e : TypeId} {α : Type} [Inhabited α] {a : Value} (f : α → List DV) (ok : α → Prop) (sz : Nat) (hf : ∀ a, (f a).length = sz) (hsz : 0 < sz) (ht : P.underlying t = some (.slice e)) (hC : P.cellsOf e = sz)
    (rd : ∀ (fuel : Nat) (cs : List Value) (x : DataW H × List MemPlace), DataW.trod enc P W b0 spare held fuel e cs = some x → ∃ m, RepL W cs (f m) ∧ ok m)
    (h : ∃ n y, DataW.trod enc P W b0 spare held n t [a] = some y) :
    ∃ xs : List α, DRep W (fun b => b < W.heap.size) a (.sl (xs.map f)) ∧ xs.length ≤ 9223372036854775807 ∧ ∀ m ∈ xs, ok m := by
  obtain ⟨n, y, h⟩ := h
  rcases DataW.trod_slice ht h with ⟨h0, _⟩ | ⟨ad, len, cap, elems, rest, n', _, hcs, _, hb, hl, hm, hel, hi, _, _⟩
  · simp at h0
    subst h0
    exact ⟨[], .nil, by simp, fun m hm => by simp at hm⟩
  · simp at hcs
    subst hcs
    rw [hC] at hi
    obtain ⟨q, hq⟩ := choose_lt (α := α) (n := len) (p := fun k q => (∃ cs', W.cells? b0 (ad.add (k * sz)) sz = some cs' ∧ RepL W cs' (f q)) ∧ ok q) (fun k hk => by
      have h1 := hi k hk
      rw [List.getElem?_eq_getElem (by omega)] at h1
      obtain ⟨cs', hc, htr⟩ := Option.bind_eq_some_iff.1 h1
      obtain ⟨m, hm1, hm2⟩ := rd _ _ _ htr
      exact ⟨m, ⟨cs', hc, hm1⟩, hm2⟩)
    have hxl : ((List.range len).map q).length = len := by simp
    refine ⟨(List.range len).map q, ?_, by rw [hxl]; unfold maxLen at hm; omega, fun m hm' => ?_⟩
    · have hcell : ∀ k, k < len → ∀ j, j < sz → ∃ v, W.cell? (ad.add (k * sz + j)) = some v ∧ ∀ x, (f (q k))[j]? = some x → DRep W (fun b => b < W.heap.size) v x := by
        intro k hk j hj
        obtain ⟨⟨cs', hc, hr⟩, _⟩ := hq k hk
        obtain ⟨_, hl', hat⟩ := World.cells?_some hc
        have hjl : j < cs'.length := by rw [hr.1, hf]; exact hj
        refine ⟨cs'[j], ?_, fun x hx => hr.2 j _ x (List.getElem?_eq_getElem hjl) hx⟩
        rw [← Go.Deep.add_add, ← List.getElem?_eq_getElem hjl]
        exact hat j hj
      rcases Nat.eq_zero_or_pos len with h0 | h0
      · subst h0
        exact .emp _ _ hm
      · obtain ⟨v0, h00, _⟩ := hcell 0 h0 0 hsz
        obtain ⟨b, off, spot⟩ := ad
        have hspot : spot = none := by
          have := World.cell?_spot h00
          simpa [Addr.add] using this
        subst hspot
        have hdd : DRep W (fun b => b < W.heap.size) (.slice (some ⟨b, off, none⟩) ((List.range len).map (fun k => f (q k))).length cap) (.sl ((List.range len).map fun k => f (q k))) := by
          refine .sl b off cap sz _ (fun i j => (W.cell? ⟨b, off + i * sz + j, none⟩).getD undef) ?_ (by simpa using hl) hm (fun i e he => ?_) (fun i e j x he hx => ?_) (fun i e j x he hx => ?_)
          · have h01 := cell_ltA h00
            simp only [Addr.add] at h01
            split at h01 <;> exact h01
          · rw [List.getElem?_map] at he
            obtain ⟨k, _, rfl⟩ := Option.map_eq_some_iff.1 he
            exact hf _
          all_goals
            rw [List.getElem?_map] at he
            obtain ⟨k, hk, rfl⟩ := Option.map_eq_some_iff.1 he
            obtain ⟨hil, rfl⟩ := List.getElem?_eq_some_iff.1 hk
            simp only [List.length_range] at hil
            simp only [List.getElem_range] at hx
            have hjl : j < sz := by have := (List.getElem?_eq_some_iff.1 hx).1; rw [hf] at this; exact this
            obtain ⟨v, hv, hr⟩ := hcell i hil j hjl
            rw [add_plain, ← Nat.add_assoc] at hv
            rw [hv]
          · rfl
          · exact hr x hx
        simpa [List.map_map, Function.comp_def] using hdd
    · obtain ⟨k, hk, rfl⟩ := List.mem_map.1 hm'
      exact (hq k (by simpa using hk)).2
end
end Go.Proofs.YtlakbomkpnlidaaGreat
namespace Go.Proofs.YtlakbomkpnlidaaGreat
open Go.ChangeShapes Go.WideShapes Go.ChangeAt Go.RowKit Go.Deep
set_option linter.unusedVariables false
set_option maxRecDepth 100000
def osI (x : Int) : Prop := -9223372036854775808 ≤ x ∧ x ≤ 9223372036854775807
def osS (x : ByteArray) : Prop := x.size ≤ 9223372036854775807
def osL {α : Type} (ok : α → Prop) (xs : List α) : Prop := xs.length ≤ 9223372036854775807 ∧ ∀ m ∈ xs, ok m
section
variable {H : Type} {enc : TypeId × Value → H} {W : World} {b0 : Nat} {spare : Nat → Bool} {held : Bool} {fuel : Nat} {cs : List Value} {x : DataW H × List MemPlace}
theorem sl_one {P : Program} {t e : TypeId} (ht : P.underlying t = some (.slice e)) (h : DataW.trod enc P W b0 spare held fuel t cs = some x) : ∃ v, cs = [v] := by
  rcases DataW.trod_slice ht h with ⟨h0, _⟩ | ⟨ad, len, cap, elems, rest, n', _, hcs, _⟩
  · exact ⟨_, h0⟩
  · exact ⟨_, hcs⟩
theorem sliceX {P : Program} {t e : TypeId} {α : Type} {a : Value} (f : α → List DV) (ok : α → Prop) (sz : Nat) (hf : ∀ a, (f a).length = sz) (hsz : 0 < sz) (ht : P.underlying t = some (.slice e)) (hC : P.cellsOf e = sz)
    (rd : ∀ (fuel : Nat) (cs : List Value) (x : DataW H × List MemPlace), DataW.trod enc P W b0 spare held fuel e cs = some x → ∃ m, RepL W cs (f m) ∧ ok m)
    (h : ∃ n y, DataW.trod enc P W b0 spare held n t [a] = some y) :
    ∃ xs : List α, DRep W (fun b => b < W.heap.size) a (.sl (xs.map f)) ∧ xs.length ≤ 9223372036854775807 ∧ ∀ m ∈ xs, ok m := by
  by_cases hne : Nonempty α
  · haveI : Inhabited α := ⟨Classical.choice hne⟩
    exact sliceA f ok sz hf hsz ht hC rd h
  · obtain ⟨n, y, h⟩ := h
    rcases DataW.trod_slice ht h with ⟨h0, _⟩ | ⟨ad, len, cap, elems, rest, n', _, hcs, _, hb, hl, hm, hel, hi, _, _⟩
    · simp at h0
      subst h0
      exact ⟨[], .nil, by simp, fun m hm => by simp at hm⟩
    · simp at hcs
      subst hcs
      rcases Nat.eq_zero_or_pos len with h0 | h0
      · subst h0
        exact ⟨[], .emp _ _ hm, by simp, fun m hm => by simp at hm⟩
      · exfalso
        have h1 := hi 0 h0
        rw [List.getElem?_eq_getElem (by omega)] at h1
        obtain ⟨cs', hc, htr⟩ := Option.bind_eq_some_iff.1 h1
        obtain ⟨m, _⟩ := rd _ _ _ htr
        exact hne ⟨m⟩
end
end Go.Proofs.YtlakbomkpnlidaaGreat
namespace Go.Proofs.YtlakbomkpnlidaaGreat
open Go.RowKit
set_option linter.unusedVariables false
set_option maxRecDepth 100000
set_option maxHeartbeats 2000000
def okArbor_ (x : Arbor_) : Prop := osS x.Name ∧ (osL osI) x.Wheels
def okMesh_ (x : Mesh_) : Prop := osI x.A ∧ osI x.WheelA ∧ osI x.B ∧ osI x.WheelB
def okWorks_ (x : Works_) : Prop := (osL okArbor_) x.Arbors ∧ (osL okMesh_) x.Meshes
def okMonth_ (x : Month_) : Prop := osS x.Name ∧ osI x.Days ∧ osI x.Leap
def okLeapRule_ (x : LeapRule_) : Prop := osI x.Every ∧ osI x.Rest ∧ (fun _ => True) x.Leap
def okCalendar_ (x : Calendar_) : Prop := osS x.Name ∧ (osL okMonth_) x.Months ∧ (osL okLeapRule_) x.Rules ∧ osI x.Week
def okMovement_ (x : Movement_) : Prop := osS x.Name ∧ okWorks_ x.Works ∧ osI x.Minute ∧ osI x.Hour ∧ osI x.Escape ∧ osI x.Teeth ∧ osI x.Beats ∧ okCalendar_ x.Calendar ∧ (osL osI) x.Cam ∧ osI x.Strike
def okDate_ (x : Date_) : Prop := osI x.Year ∧ osI x.Month ∧ osI x.Day
def okPerpetual_ (x : Perpetual_) : Prop := (osL osI) x.Cam ∧ osI x.Months ∧ osI x.Teeth ∧ osI x.At ∧ osI x.Day ∧ osI x.Week ∧ osI x.Weekday
def okSim_ (x : Sim_) : Prop := okMovement_ x.Movement ∧ okDate_ x.Start ∧ osI x.First ∧ osI x.Clock ∧ okPerpetual_ x.Dial
end Go.Proofs.YtlakbomkpnlidaaGreat
namespace Go.Proofs.YtlakbomkpnlidaaGreat
open Go.ChangeShapes Go.WideShapes Go.ChangeAt Go.RowKit Go.Deep
set_option linter.unusedVariables false
set_option maxRecDepth 100000
set_option maxHeartbeats 2000000
theorem lst2 {α : Type} (l : List α) (h : l.length = 2) : ∃ a0 a1, l = [a0, a1] := by
  match l, h with
  | [a0, a1], _ => exact ⟨a0, a1, rfl⟩
theorem lst3 {α : Type} (l : List α) (h : l.length = 3) : ∃ a0 a1 a2, l = [a0, a1, a2] := by
  match l, h with
  | [a0, a1, a2], _ => exact ⟨a0, a1, a2, rfl⟩
theorem lst4 {α : Type} (l : List α) (h : l.length = 4) : ∃ a0 a1 a2 a3, l = [a0, a1, a2, a3] := by
  match l, h with
  | [a0, a1, a2, a3], _ => exact ⟨a0, a1, a2, a3, rfl⟩
theorem lst7 {α : Type} (l : List α) (h : l.length = 7) : ∃ a0 a1 a2 a3 a4 a5 a6, l = [a0, a1, a2, a3, a4, a5, a6] := by
  match l, h with
  | [a0, a1, a2, a3, a4, a5, a6], _ => exact ⟨a0, a1, a2, a3, a4, a5, a6, rfl⟩
theorem lst14 {α : Type} (l : List α) (h : l.length = 14) : ∃ a0 a1 a2 a3 a4 a5 a6 a7 a8 a9 a10 a11 a12 a13, l = [a0, a1, a2, a3, a4, a5, a6, a7, a8, a9, a10, a11, a12, a13] := by
  match l, h with
  | [a0, a1, a2, a3, a4, a5, a6, a7, a8, a9, a10, a11, a12, a13], _ => exact ⟨a0, a1, a2, a3, a4, a5, a6, a7, a8, a9, a10, a11, a12, a13, rfl⟩
theorem lst26 {α : Type} (l : List α) (h : l.length = 26) : ∃ a0 a1 a2 a3 a4 a5 a6 a7 a8 a9 a10 a11 a12 a13 a14 a15 a16 a17 a18 a19 a20 a21 a22 a23 a24 a25, l = [a0, a1, a2, a3, a4, a5, a6, a7, a8, a9, a10, a11, a12, a13, a14, a15, a16, a17, a18, a19, a20, a21, a22, a23, a24, a25] := by
  match l, h with
  | [a0, a1, a2, a3, a4, a5, a6, a7, a8, a9, a10, a11, a12, a13, a14, a15, a16, a17, a18, a19, a20, a21, a22, a23, a24, a25], _ => exact ⟨a0, a1, a2, a3, a4, a5, a6, a7, a8, a9, a10, a11, a12, a13, a14, a15, a16, a17, a18, a19, a20, a21, a22, a23, a24, a25, rfl⟩
theorem rd_9 {H : Type} {enc : TypeId × Value → H} {W : World} {b0 : Nat} {spare : Nat → Bool} {held : Bool} {fuel : Nat} {cs : List Value} {x : DataW H × List MemPlace} (h : DataW.trod enc Tryz.prog W b0 spare held fuel 9 cs = some x) : ∃ v : ByteArray, RepL W cs (cS v) ∧ osS v := by
  obtain ⟨z, rfl, _, hw⟩ := DataW.trod_string Tryz.underlying9 h
  exact ⟨z, repL_cons (repL_str _) repL_nil, by unfold osS; unfold maxLen at hw; exact hw⟩
theorem rd_2 {H : Type} {enc : TypeId × Value → H} {W : World} {b0 : Nat} {spare : Nat → Bool} {held : Bool} {fuel : Nat} {cs : List Value} {x : DataW H × List MemPlace} (h : DataW.trod enc Tryz.prog W b0 spare held fuel 2 cs = some x) : ∃ v : Int, RepL W cs (cI v) ∧ osI v := by
  obtain ⟨z, rfl, _, hw⟩ := DataW.trod_int Tryz.underlying2 h
  exact ⟨z, repL_cons (repL_int _ _) repL_nil, by simpa [osI, Lit.wf, IntKind.min, IntKind.max, IntKind.bits, IntKind.signed] using hw⟩
theorem rd_30 {H : Type} {enc : TypeId × Value → H} {W : World} {b0 : Nat} {spare : Nat → Bool} {held : Bool} {fuel : Nat} {cs : List Value} {x : DataW H × List MemPlace} (h : DataW.trod enc Tryz.prog W b0 spare held fuel 30 cs = some x) : ∃ v : List Int, RepL W cs ((cL cI) v) ∧ (osL osI) v := by
  obtain ⟨v, hv⟩ : ∃ v, cs = [v] := sl_one (t := 30) Tryz.underlying30 h
  subst hv
  obtain ⟨xs, hr, hm, hok⟩ := sliceX cI osI 1 (fun _ => rfl) (by omega) Tryz.underlying30 (by kernel_rfl) (fun fuel cs x h => rd_2 h) ⟨_, _, h⟩
  exact ⟨xs, repL_cons hr repL_nil, hm, hok⟩
theorem rd_225 {H : Type} {enc : TypeId × Value → H} {W : World} {b0 : Nat} {spare : Nat → Bool} {held : Bool} {fuel : Nat} {cs : List Value} {x : DataW H × List MemPlace} (h : DataW.trod enc Tryz.prog W b0 spare held fuel 225 cs = some x) : ∃ v : Arbor_, RepL W cs (cArbor_ v) ∧ okArbor_ v := by
  obtain ⟨a0, a1, rfl⟩ := lst2 cs ((cellsR Tryz.underlying225 h).trans (by kernel_rfl))
  obtain ⟨n0, y0, h0⟩ := fieldR Tryz.underlying225 h 0 9 [a0] (by kernel_rfl)
  obtain ⟨v0, r0, o0⟩ := rd_9 h0
  obtain ⟨n1, y1, h1⟩ := fieldR Tryz.underlying225 h 1 30 [a1] (by kernel_rfl)
  obtain ⟨v1, r1, o1⟩ := rd_30 h1
  exact ⟨⟨v0, v1⟩, (repL_app r0 (repL_app r1 repL_nil)), ⟨o0, o1⟩⟩
theorem rd_22 {H : Type} {enc : TypeId × Value → H} {W : World} {b0 : Nat} {spare : Nat → Bool} {held : Bool} {fuel : Nat} {cs : List Value} {x : DataW H × List MemPlace} (h : DataW.trod enc Tryz.prog W b0 spare held fuel 22 cs = some x) : ∃ v : List Arbor_, RepL W cs ((cL cArbor_) v) ∧ (osL okArbor_) v := by
  obtain ⟨v, hv⟩ : ∃ v, cs = [v] := sl_one (t := 22) Tryz.underlying22 h
  subst hv
  obtain ⟨xs, hr, hm, hok⟩ := sliceX cArbor_ okArbor_ 2 (fun _ => rfl) (by omega) Tryz.underlying22 (by kernel_rfl) (fun fuel cs x h => rd_225 h) ⟨_, _, h⟩
  exact ⟨xs, repL_cons hr repL_nil, hm, hok⟩
theorem rd_244 {H : Type} {enc : TypeId × Value → H} {W : World} {b0 : Nat} {spare : Nat → Bool} {held : Bool} {fuel : Nat} {cs : List Value} {x : DataW H × List MemPlace} (h : DataW.trod enc Tryz.prog W b0 spare held fuel 244 cs = some x) : ∃ v : Mesh_, RepL W cs (cMesh_ v) ∧ okMesh_ v := by
  obtain ⟨a0, a1, a2, a3, rfl⟩ := lst4 cs ((cellsR Tryz.underlying244 h).trans (by kernel_rfl))
  obtain ⟨n0, y0, h0⟩ := fieldR Tryz.underlying244 h 0 2 [a0] (by kernel_rfl)
  obtain ⟨v0, r0, o0⟩ := rd_2 h0
  obtain ⟨n1, y1, h1⟩ := fieldR Tryz.underlying244 h 1 2 [a1] (by kernel_rfl)
  obtain ⟨v1, r1, o1⟩ := rd_2 h1
  obtain ⟨n2, y2, h2⟩ := fieldR Tryz.underlying244 h 2 2 [a2] (by kernel_rfl)
  obtain ⟨v2, r2, o2⟩ := rd_2 h2
  obtain ⟨n3, y3, h3⟩ := fieldR Tryz.underlying244 h 3 2 [a3] (by kernel_rfl)
  obtain ⟨v3, r3, o3⟩ := rd_2 h3
  exact ⟨⟨v0, v1, v2, v3⟩, (repL_app r0 (repL_app r1 (repL_app r2 (repL_app r3 repL_nil)))), ⟨o0, o1, o2, o3⟩⟩
theorem rd_23 {H : Type} {enc : TypeId × Value → H} {W : World} {b0 : Nat} {spare : Nat → Bool} {held : Bool} {fuel : Nat} {cs : List Value} {x : DataW H × List MemPlace} (h : DataW.trod enc Tryz.prog W b0 spare held fuel 23 cs = some x) : ∃ v : List Mesh_, RepL W cs ((cL cMesh_) v) ∧ (osL okMesh_) v := by
  obtain ⟨v, hv⟩ : ∃ v, cs = [v] := sl_one (t := 23) Tryz.underlying23 h
  subst hv
  obtain ⟨xs, hr, hm, hok⟩ := sliceX cMesh_ okMesh_ 4 (fun _ => rfl) (by omega) Tryz.underlying23 (by kernel_rfl) (fun fuel cs x h => rd_244 h) ⟨_, _, h⟩
  exact ⟨xs, repL_cons hr repL_nil, hm, hok⟩
theorem rd_25 {H : Type} {enc : TypeId × Value → H} {W : World} {b0 : Nat} {spare : Nat → Bool} {held : Bool} {fuel : Nat} {cs : List Value} {x : DataW H × List MemPlace} (h : DataW.trod enc Tryz.prog W b0 spare held fuel 25 cs = some x) : ∃ v : Works_, RepL W cs (cWorks_ v) ∧ okWorks_ v := by
  obtain ⟨a0, a1, rfl⟩ := lst2 cs ((cellsR Tryz.underlying25 h).trans (by kernel_rfl))
  obtain ⟨n0, y0, h0⟩ := fieldR Tryz.underlying25 h 0 22 [a0] (by kernel_rfl)
  obtain ⟨v0, r0, o0⟩ := rd_22 h0
  obtain ⟨n1, y1, h1⟩ := fieldR Tryz.underlying25 h 1 23 [a1] (by kernel_rfl)
  obtain ⟨v1, r1, o1⟩ := rd_23 h1
  exact ⟨⟨v0, v1⟩, (repL_app r0 (repL_app r1 repL_nil)), ⟨o0, o1⟩⟩
theorem rd_227 {H : Type} {enc : TypeId × Value → H} {W : World} {b0 : Nat} {spare : Nat → Bool} {held : Bool} {fuel : Nat} {cs : List Value} {x : DataW H × List MemPlace} (h : DataW.trod enc Tryz.prog W b0 spare held fuel 227 cs = some x) : ∃ v : Month_, RepL W cs (cMonth_ v) ∧ okMonth_ v := by
  obtain ⟨a0, a1, a2, rfl⟩ := lst3 cs ((cellsR Tryz.underlying227 h).trans (by kernel_rfl))
  obtain ⟨n0, y0, h0⟩ := fieldR Tryz.underlying227 h 0 9 [a0] (by kernel_rfl)
  obtain ⟨v0, r0, o0⟩ := rd_9 h0
  obtain ⟨n1, y1, h1⟩ := fieldR Tryz.underlying227 h 1 2 [a1] (by kernel_rfl)
  obtain ⟨v1, r1, o1⟩ := rd_2 h1
  obtain ⟨n2, y2, h2⟩ := fieldR Tryz.underlying227 h 2 2 [a2] (by kernel_rfl)
  obtain ⟨v2, r2, o2⟩ := rd_2 h2
  exact ⟨⟨v0, v1, v2⟩, (repL_app r0 (repL_app r1 (repL_app r2 repL_nil))), ⟨o0, o1, o2⟩⟩
theorem rd_26 {H : Type} {enc : TypeId × Value → H} {W : World} {b0 : Nat} {spare : Nat → Bool} {held : Bool} {fuel : Nat} {cs : List Value} {x : DataW H × List MemPlace} (h : DataW.trod enc Tryz.prog W b0 spare held fuel 26 cs = some x) : ∃ v : List Month_, RepL W cs ((cL cMonth_) v) ∧ (osL okMonth_) v := by
  obtain ⟨v, hv⟩ : ∃ v, cs = [v] := sl_one (t := 26) Tryz.underlying26 h
  subst hv
  obtain ⟨xs, hr, hm, hok⟩ := sliceX cMonth_ okMonth_ 3 (fun _ => rfl) (by omega) Tryz.underlying26 (by kernel_rfl) (fun fuel cs x h => rd_227 h) ⟨_, _, h⟩
  exact ⟨xs, repL_cons hr repL_nil, hm, hok⟩
theorem rd_4 {H : Type} {enc : TypeId × Value → H} {W : World} {b0 : Nat} {spare : Nat → Bool} {held : Bool} {fuel : Nat} {cs : List Value} {x : DataW H × List MemPlace} (h : DataW.trod enc Tryz.prog W b0 spare held fuel 4 cs = some x) : ∃ v : Bool, RepL W cs (cB v) ∧ (fun _ => True) v := by
  obtain ⟨z, rfl, _⟩ := DataW.trod_bool Tryz.underlying4 h
  exact ⟨z, repL_cons (repL_bool _) repL_nil, trivial⟩
theorem rd_247 {H : Type} {enc : TypeId × Value → H} {W : World} {b0 : Nat} {spare : Nat → Bool} {held : Bool} {fuel : Nat} {cs : List Value} {x : DataW H × List MemPlace} (h : DataW.trod enc Tryz.prog W b0 spare held fuel 247 cs = some x) : ∃ v : LeapRule_, RepL W cs (cLeapRule_ v) ∧ okLeapRule_ v := by
  obtain ⟨a0, a1, a2, rfl⟩ := lst3 cs ((cellsR Tryz.underlying247 h).trans (by kernel_rfl))
  obtain ⟨n0, y0, h0⟩ := fieldR Tryz.underlying247 h 0 2 [a0] (by kernel_rfl)
  obtain ⟨v0, r0, o0⟩ := rd_2 h0
  obtain ⟨n1, y1, h1⟩ := fieldR Tryz.underlying247 h 1 2 [a1] (by kernel_rfl)
  obtain ⟨v1, r1, o1⟩ := rd_2 h1
  obtain ⟨n2, y2, h2⟩ := fieldR Tryz.underlying247 h 2 4 [a2] (by kernel_rfl)
  obtain ⟨v2, r2, o2⟩ := rd_4 h2
  exact ⟨⟨v0, v1, v2⟩, (repL_app r0 (repL_app r1 (repL_app r2 repL_nil))), ⟨o0, o1, o2⟩⟩
theorem rd_27 {H : Type} {enc : TypeId × Value → H} {W : World} {b0 : Nat} {spare : Nat → Bool} {held : Bool} {fuel : Nat} {cs : List Value} {x : DataW H × List MemPlace} (h : DataW.trod enc Tryz.prog W b0 spare held fuel 27 cs = some x) : ∃ v : List LeapRule_, RepL W cs ((cL cLeapRule_) v) ∧ (osL okLeapRule_) v := by
  obtain ⟨v, hv⟩ : ∃ v, cs = [v] := sl_one (t := 27) Tryz.underlying27 h
  subst hv
  obtain ⟨xs, hr, hm, hok⟩ := sliceX cLeapRule_ okLeapRule_ 3 (fun _ => rfl) (by omega) Tryz.underlying27 (by kernel_rfl) (fun fuel cs x h => rd_247 h) ⟨_, _, h⟩
  exact ⟨xs, repL_cons hr repL_nil, hm, hok⟩
theorem rd_29 {H : Type} {enc : TypeId × Value → H} {W : World} {b0 : Nat} {spare : Nat → Bool} {held : Bool} {fuel : Nat} {cs : List Value} {x : DataW H × List MemPlace} (h : DataW.trod enc Tryz.prog W b0 spare held fuel 29 cs = some x) : ∃ v : Calendar_, RepL W cs (cCalendar_ v) ∧ okCalendar_ v := by
  obtain ⟨a0, a1, a2, a3, rfl⟩ := lst4 cs ((cellsR Tryz.underlying29 h).trans (by kernel_rfl))
  obtain ⟨n0, y0, h0⟩ := fieldR Tryz.underlying29 h 0 9 [a0] (by kernel_rfl)
  obtain ⟨v0, r0, o0⟩ := rd_9 h0
  obtain ⟨n1, y1, h1⟩ := fieldR Tryz.underlying29 h 1 26 [a1] (by kernel_rfl)
  obtain ⟨v1, r1, o1⟩ := rd_26 h1
  obtain ⟨n2, y2, h2⟩ := fieldR Tryz.underlying29 h 2 27 [a2] (by kernel_rfl)
  obtain ⟨v2, r2, o2⟩ := rd_27 h2
  obtain ⟨n3, y3, h3⟩ := fieldR Tryz.underlying29 h 3 2 [a3] (by kernel_rfl)
  obtain ⟨v3, r3, o3⟩ := rd_2 h3
  exact ⟨⟨v0, v1, v2, v3⟩, (repL_app r0 (repL_app r1 (repL_app r2 (repL_app r3 repL_nil)))), ⟨o0, o1, o2, o3⟩⟩
theorem rd_32 {H : Type} {enc : TypeId × Value → H} {W : World} {b0 : Nat} {spare : Nat → Bool} {held : Bool} {fuel : Nat} {cs : List Value} {x : DataW H × List MemPlace} (h : DataW.trod enc Tryz.prog W b0 spare held fuel 32 cs = some x) : ∃ v : Movement_, RepL W cs (cMovement_ v) ∧ okMovement_ v := by
  obtain ⟨a0, a1, a2, a3, a4, a5, a6, a7, a8, a9, a10, a11, a12, a13, rfl⟩ := lst14 cs ((cellsR Tryz.underlying32 h).trans (by kernel_rfl))
  obtain ⟨n0, y0, h0⟩ := fieldR Tryz.underlying32 h 0 9 [a0] (by kernel_rfl)
  obtain ⟨v0, r0, o0⟩ := rd_9 h0
  obtain ⟨n1, y1, h1⟩ := fieldR Tryz.underlying32 h 1 25 [a1, a2] (by kernel_rfl)
  obtain ⟨v1, r1, o1⟩ := rd_25 h1
  obtain ⟨n2, y2, h2⟩ := fieldR Tryz.underlying32 h 2 2 [a3] (by kernel_rfl)
  obtain ⟨v2, r2, o2⟩ := rd_2 h2
  obtain ⟨n3, y3, h3⟩ := fieldR Tryz.underlying32 h 3 2 [a4] (by kernel_rfl)
  obtain ⟨v3, r3, o3⟩ := rd_2 h3
  obtain ⟨n4, y4, h4⟩ := fieldR Tryz.underlying32 h 4 2 [a5] (by kernel_rfl)
  obtain ⟨v4, r4, o4⟩ := rd_2 h4
  obtain ⟨n5, y5, h5⟩ := fieldR Tryz.underlying32 h 5 2 [a6] (by kernel_rfl)
  obtain ⟨v5, r5, o5⟩ := rd_2 h5
  obtain ⟨n6, y6, h6⟩ := fieldR Tryz.underlying32 h 6 2 [a7] (by kernel_rfl)
  obtain ⟨v6, r6, o6⟩ := rd_2 h6
  obtain ⟨n7, y7, h7⟩ := fieldR Tryz.underlying32 h 7 29 [a8, a9, a10, a11] (by kernel_rfl)
  obtain ⟨v7, r7, o7⟩ := rd_29 h7
  obtain ⟨n8, y8, h8⟩ := fieldR Tryz.underlying32 h 8 30 [a12] (by kernel_rfl)
  obtain ⟨v8, r8, o8⟩ := rd_30 h8
  obtain ⟨n9, y9, h9⟩ := fieldR Tryz.underlying32 h 9 2 [a13] (by kernel_rfl)
  obtain ⟨v9, r9, o9⟩ := rd_2 h9
  exact ⟨⟨v0, v1, v2, v3, v4, v5, v6, v7, v8, v9⟩, (repL_app r0 (repL_app r1 (repL_app r2 (repL_app r3 (repL_app r4 (repL_app r5 (repL_app r6 (repL_app r7 (repL_app r8 (repL_app r9 repL_nil)))))))))), ⟨o0, o1, o2, o3, o4, o5, o6, o7, o8, o9⟩⟩
theorem rd_34 {H : Type} {enc : TypeId × Value → H} {W : World} {b0 : Nat} {spare : Nat → Bool} {held : Bool} {fuel : Nat} {cs : List Value} {x : DataW H × List MemPlace} (h : DataW.trod enc Tryz.prog W b0 spare held fuel 34 cs = some x) : ∃ v : Date_, RepL W cs (cDate_ v) ∧ okDate_ v := by
  obtain ⟨a0, a1, a2, rfl⟩ := lst3 cs ((cellsR Tryz.underlying34 h).trans (by kernel_rfl))
  obtain ⟨n0, y0, h0⟩ := fieldR Tryz.underlying34 h 0 2 [a0] (by kernel_rfl)
  obtain ⟨v0, r0, o0⟩ := rd_2 h0
  obtain ⟨n1, y1, h1⟩ := fieldR Tryz.underlying34 h 1 2 [a1] (by kernel_rfl)
  obtain ⟨v1, r1, o1⟩ := rd_2 h1
  obtain ⟨n2, y2, h2⟩ := fieldR Tryz.underlying34 h 2 2 [a2] (by kernel_rfl)
  obtain ⟨v2, r2, o2⟩ := rd_2 h2
  exact ⟨⟨v0, v1, v2⟩, (repL_app r0 (repL_app r1 (repL_app r2 repL_nil))), ⟨o0, o1, o2⟩⟩
theorem rd_36 {H : Type} {enc : TypeId × Value → H} {W : World} {b0 : Nat} {spare : Nat → Bool} {held : Bool} {fuel : Nat} {cs : List Value} {x : DataW H × List MemPlace} (h : DataW.trod enc Tryz.prog W b0 spare held fuel 36 cs = some x) : ∃ v : Perpetual_, RepL W cs (cPerpetual_ v) ∧ okPerpetual_ v := by
  obtain ⟨a0, a1, a2, a3, a4, a5, a6, rfl⟩ := lst7 cs ((cellsR Tryz.underlying36 h).trans (by kernel_rfl))
  obtain ⟨n0, y0, h0⟩ := fieldR Tryz.underlying36 h 0 30 [a0] (by kernel_rfl)
  obtain ⟨v0, r0, o0⟩ := rd_30 h0
  obtain ⟨n1, y1, h1⟩ := fieldR Tryz.underlying36 h 1 2 [a1] (by kernel_rfl)
  obtain ⟨v1, r1, o1⟩ := rd_2 h1
  obtain ⟨n2, y2, h2⟩ := fieldR Tryz.underlying36 h 2 2 [a2] (by kernel_rfl)
  obtain ⟨v2, r2, o2⟩ := rd_2 h2
  obtain ⟨n3, y3, h3⟩ := fieldR Tryz.underlying36 h 3 2 [a3] (by kernel_rfl)
  obtain ⟨v3, r3, o3⟩ := rd_2 h3
  obtain ⟨n4, y4, h4⟩ := fieldR Tryz.underlying36 h 4 2 [a4] (by kernel_rfl)
  obtain ⟨v4, r4, o4⟩ := rd_2 h4
  obtain ⟨n5, y5, h5⟩ := fieldR Tryz.underlying36 h 5 2 [a5] (by kernel_rfl)
  obtain ⟨v5, r5, o5⟩ := rd_2 h5
  obtain ⟨n6, y6, h6⟩ := fieldR Tryz.underlying36 h 6 2 [a6] (by kernel_rfl)
  obtain ⟨v6, r6, o6⟩ := rd_2 h6
  exact ⟨⟨v0, v1, v2, v3, v4, v5, v6⟩, (repL_app r0 (repL_app r1 (repL_app r2 (repL_app r3 (repL_app r4 (repL_app r5 (repL_app r6 repL_nil))))))), ⟨o0, o1, o2, o3, o4, o5, o6⟩⟩
theorem rd_38 {H : Type} {enc : TypeId × Value → H} {W : World} {b0 : Nat} {spare : Nat → Bool} {held : Bool} {fuel : Nat} {cs : List Value} {x : DataW H × List MemPlace} (h : DataW.trod enc Tryz.prog W b0 spare held fuel 38 cs = some x) : ∃ v : Sim_, RepL W cs (cSim_ v) ∧ okSim_ v := by
  obtain ⟨a0, a1, a2, a3, a4, a5, a6, a7, a8, a9, a10, a11, a12, a13, a14, a15, a16, a17, a18, a19, a20, a21, a22, a23, a24, a25, rfl⟩ := lst26 cs ((cellsR Tryz.underlying38 h).trans (by kernel_rfl))
  obtain ⟨n0, y0, h0⟩ := fieldR Tryz.underlying38 h 0 32 [a0, a1, a2, a3, a4, a5, a6, a7, a8, a9, a10, a11, a12, a13] (by kernel_rfl)
  obtain ⟨v0, r0, o0⟩ := rd_32 h0
  obtain ⟨n1, y1, h1⟩ := fieldR Tryz.underlying38 h 1 34 [a14, a15, a16] (by kernel_rfl)
  obtain ⟨v1, r1, o1⟩ := rd_34 h1
  obtain ⟨n2, y2, h2⟩ := fieldR Tryz.underlying38 h 2 2 [a17] (by kernel_rfl)
  obtain ⟨v2, r2, o2⟩ := rd_2 h2
  obtain ⟨n3, y3, h3⟩ := fieldR Tryz.underlying38 h 3 2 [a18] (by kernel_rfl)
  obtain ⟨v3, r3, o3⟩ := rd_2 h3
  obtain ⟨n4, y4, h4⟩ := fieldR Tryz.underlying38 h 4 36 [a19, a20, a21, a22, a23, a24, a25] (by kernel_rfl)
  obtain ⟨v4, r4, o4⟩ := rd_36 h4
  exact ⟨⟨v0, v1, v2, v3, v4⟩, (repL_app r0 (repL_app r1 (repL_app r2 (repL_app r3 (repL_app r4 repL_nil))))), ⟨o0, o1, o2, o3, o4⟩⟩
theorem open_38 {H : Type} {enc : TypeId × Value → H} {W : World} {b0 base : Nat} {spare : Nat → Bool} {held : Bool} {v : Value} {d : DataW H} {p : List MemPlace} (hv : Value.okWide Tryz.prog W .any base 38 v) (h : DataW.Trod enc Tryz.prog W b0 spare held 38 v d p) : ∃ x : Sim_, ARep W (fun b => b < W.heap.size) (fun _ _ => none) (lks []) v (.agg [.d (.v (.string x.Movement.Name)), .d (.sl (List.map cArbor_ x.Movement.Works.Arbors)), .d (.sl (List.map cMesh_ x.Movement.Works.Meshes)), .d (.v (.int .i64 x.Movement.Minute)), .d (.v (.int .i64 x.Movement.Hour)), .d (.v (.int .i64 x.Movement.Escape)), .d (.v (.int .i64 x.Movement.Teeth)), .d (.v (.int .i64 x.Movement.Beats)), .d (.v (.string x.Movement.Calendar.Name)), .d (.sl (List.map cMonth_ x.Movement.Calendar.Months)), .d (.sl (List.map cLeapRule_ x.Movement.Calendar.Rules)), .d (.v (.int .i64 x.Movement.Calendar.Week)), .d (.sl (List.map cI x.Movement.Cam)), .d (.v (.int .i64 x.Movement.Strike)), .d (.v (.int .i64 x.Start.Year)), .d (.v (.int .i64 x.Start.Month)), .d (.v (.int .i64 x.Start.Day)), .d (.v (.int .i64 x.First)), .d (.v (.int .i64 x.Clock)), .d (.sl (List.map cI x.Dial.Cam)), .d (.v (.int .i64 x.Dial.Months)), .d (.v (.int .i64 x.Dial.Teeth)), .d (.v (.int .i64 x.Dial.At)), .d (.v (.int .i64 x.Dial.Day)), .d (.v (.int .i64 x.Dial.Week)), .d (.v (.int .i64 x.Dial.Weekday))]) ∧ okSim_ x := by
  obtain ⟨cs, rfl, hsz⟩ := okWide_struct Tryz.underlying38 hv
  obtain ⟨fuel, hf⟩ := h
  obtain ⟨x, hr, hok⟩ := rd_38 hf
  exact ⟨x, agg_rep (ds := cSim_ x) (by simpa [Value.cells] using hr), hok⟩
end Go.Proofs.YtlakbomkpnlidaaGreat
namespace Go.Proofs.YtlakbomkpnlidaaGreat
open Go.RowKit
set_option linter.unusedVariables false
set_option maxRecDepth 100000
theorem ty2 : TyIs Tryz.prog 2 ⟨.int .i64, 1, 8, .int .i64 0⟩ := tyIs_of (by kernel_rfl)
theorem ty3 : TyIs Tryz.prog 3 ⟨.int .i64, 1, 8, .int .i64 0⟩ := tyIs_of (by kernel_rfl)
theorem ty4 : TyIs Tryz.prog 4 ⟨.bool, 1, 1, .bool false⟩ := tyIs_of (by kernel_rfl)
theorem ty5 : TyIs Tryz.prog 5 ⟨.int .u8, 1, 1, .int .u8 0⟩ := tyIs_of (by kernel_rfl)
theorem ty6 : TyIs Tryz.prog 6 ⟨.int .u8, 1, 1, .int .u8 0⟩ := tyIs_of (by kernel_rfl)
theorem ty8 : TyIs Tryz.prog 8 ⟨.struct #[⟨ "x", 2, 0, false, "", "runtime", 0⟩, ⟨ "y", 3, 1, false, "", "runtime", 8⟩, ⟨ "signed", 4, 2, false, "", "runtime", 16⟩, ⟨ "code", 6, 3, false, "", "runtime", 17⟩], 4, 24, .agg #[.int .i64 0, .int .i64 0, .bool false, .int .u8 0]⟩ := tyIs_of (by kernel_rfl)
theorem ty9 : TyIs Tryz.prog 9 ⟨.string, 1, 16, .string ⟨#[]⟩⟩ := tyIs_of (by kernel_rfl)
theorem ty10 : TyIs Tryz.prog 10 ⟨.string, 1, 16, .string ⟨#[]⟩⟩ := tyIs_of (by kernel_rfl)
theorem ty11 : TyIs Tryz.prog 11 ⟨.string, 1, 16, .string ⟨#[]⟩⟩ := tyIs_of (by kernel_rfl)
theorem ty12 : TyIs Tryz.prog 12 ⟨.int .u64, 1, 8, .int .u64 0⟩ := tyIs_of (by kernel_rfl)
theorem ty14 : TyIs Tryz.prog 14 ⟨.struct #[⟨ "msg", 9, 0, false, "", "runtime", 0⟩, ⟨ "addr", 12, 1, false, "", "runtime", 16⟩], 2, 24, .agg #[.string ⟨#[]⟩, .int .u64 0]⟩ := tyIs_of (by kernel_rfl)
theorem ty15 : TyIs Tryz.prog 15 ⟨.pointer 325, 1, 8, .pointer none⟩ := tyIs_of (by kernel_rfl)
theorem ty16 : TyIs Tryz.prog 16 ⟨.pointer 328, 1, 8, .pointer none⟩ := tyIs_of (by kernel_rfl)
theorem ty17 : TyIs Tryz.prog 17 ⟨.pointer 338, 1, 8, .pointer none⟩ := tyIs_of (by kernel_rfl)
theorem ty19 : TyIs Tryz.prog 19 ⟨.struct #[⟨ "typ", 17, 0, false, "", "internal/runtime/maps", 0⟩], 1, 8, .agg #[.pointer none]⟩ := tyIs_of (by kernel_rfl)
theorem ty22 : TyIs Tryz.prog 22 ⟨.slice 225, 1, 24, .slice none 0 0⟩ := tyIs_of (by kernel_rfl)
theorem ty23 : TyIs Tryz.prog 23 ⟨.slice 244, 1, 24, .slice none 0 0⟩ := tyIs_of (by kernel_rfl)
theorem ty25 : TyIs Tryz.prog 25 ⟨.struct #[⟨ "Arbors", 22, 0, false, "", "", 0⟩, ⟨ "Meshes", 23, 1, false, "", "", 24⟩], 2, 48, .agg #[.slice none 0 0, .slice none 0 0]⟩ := tyIs_of (by kernel_rfl)
theorem ty26 : TyIs Tryz.prog 26 ⟨.slice 227, 1, 24, .slice none 0 0⟩ := tyIs_of (by kernel_rfl)
theorem ty27 : TyIs Tryz.prog 27 ⟨.slice 247, 1, 24, .slice none 0 0⟩ := tyIs_of (by kernel_rfl)
theorem ty29 : TyIs Tryz.prog 29 ⟨.struct #[⟨ "Name", 9, 0, false, "", "", 0⟩, ⟨ "Months", 26, 1, false, "", "", 16⟩, ⟨ "Rules", 27, 2, false, "", "", 40⟩, ⟨ "Week", 2, 3, false, "", "", 64⟩], 4, 72, .agg #[.string ⟨#[]⟩, .slice none 0 0, .slice none 0 0, .int .i64 0]⟩ := tyIs_of (by kernel_rfl)
theorem ty30 : TyIs Tryz.prog 30 ⟨.slice 2, 1, 24, .slice none 0 0⟩ := tyIs_of (by kernel_rfl)
theorem ty32 : TyIs Tryz.prog 32 ⟨.struct #[⟨ "Name", 9, 0, false, "", "", 0⟩, ⟨ "Works", 25, 1, false, "", "", 16⟩, ⟨ "Minute", 2, 3, false, "", "", 64⟩, ⟨ "Hour", 2, 4, false, "", "", 72⟩, ⟨ "Escape", 2, 5, false, "", "", 80⟩, ⟨ "Teeth", 2, 6, false, "", "", 88⟩, ⟨ "Beats", 2, 7, false, "", "", 96⟩, ⟨ "Calendar", 29, 8, false, "", "", 104⟩, ⟨ "Cam", 30, 12, false, "", "", 176⟩, ⟨ "Strike", 2, 13, false, "", "", 200⟩], 14, 208, .agg #[.string ⟨#[]⟩, .slice none 0 0, .slice none 0 0, .int .i64 0, .int .i64 0, .int .i64 0, .int .i64 0, .int .i64 0, .string ⟨#[]⟩, .slice none 0 0, .slice none 0 0, .int .i64 0, .slice none 0 0, .int .i64 0]⟩ := tyIs_of (by kernel_rfl)
theorem ty34 : TyIs Tryz.prog 34 ⟨.struct #[⟨ "Year", 2, 0, false, "", "", 0⟩, ⟨ "Month", 2, 1, false, "", "", 8⟩, ⟨ "Day", 2, 2, false, "", "", 16⟩], 3, 24, .agg #[.int .i64 0, .int .i64 0, .int .i64 0]⟩ := tyIs_of (by kernel_rfl)
theorem ty36 : TyIs Tryz.prog 36 ⟨.struct #[⟨ "Cam", 30, 0, false, "", "", 0⟩, ⟨ "Months", 2, 1, false, "", "", 24⟩, ⟨ "Teeth", 2, 2, false, "", "", 32⟩, ⟨ "At", 2, 3, false, "", "", 40⟩, ⟨ "Day", 2, 4, false, "", "", 48⟩, ⟨ "Week", 2, 5, false, "", "", 56⟩, ⟨ "Weekday", 2, 6, false, "", "", 64⟩], 7, 72, .agg #[.slice none 0 0, .int .i64 0, .int .i64 0, .int .i64 0, .int .i64 0, .int .i64 0, .int .i64 0]⟩ := tyIs_of (by kernel_rfl)
theorem ty38 : TyIs Tryz.prog 38 ⟨.struct #[⟨ "Movement", 32, 0, false, "", "", 0⟩, ⟨ "Start", 34, 14, false, "", "", 208⟩, ⟨ "First", 2, 17, false, "", "", 232⟩, ⟨ "Clock", 2, 18, false, "", "", 240⟩, ⟨ "Dial", 36, 19, false, "", "", 248⟩], 26, 320, .agg #[.string ⟨#[]⟩, .slice none 0 0, .slice none 0 0, .int .i64 0, .int .i64 0, .int .i64 0, .int .i64 0, .int .i64 0, .string ⟨#[]⟩, .slice none 0 0, .slice none 0 0, .int .i64 0, .slice none 0 0, .int .i64 0, .int .i64 0, .int .i64 0, .int .i64 0, .int .i64 0, .int .i64 0, .slice none 0 0, .int .i64 0, .int .i64 0, .int .i64 0, .int .i64 0, .int .i64 0, .int .i64 0]⟩ := tyIs_of (by kernel_rfl)
theorem ty40 : TyIs Tryz.prog 40 ⟨.slice 213, 1, 24, .slice none 0 0⟩ := tyIs_of (by kernel_rfl)
theorem ty41 : TyIs Tryz.prog 41 ⟨.slice 215, 1, 24, .slice none 0 0⟩ := tyIs_of (by kernel_rfl)
theorem ty43 : TyIs Tryz.prog 43 ⟨.struct #[⟨ "Arbors", 40, 0, false, "", "", 0⟩, ⟨ "Meshes", 41, 1, false, "", "", 24⟩], 2, 48, .agg #[.slice none 0 0, .slice none 0 0]⟩ := tyIs_of (by kernel_rfl)
theorem ty44 : TyIs Tryz.prog 44 ⟨.slice 147, 1, 24, .slice none 0 0⟩ := tyIs_of (by kernel_rfl)
theorem ty45 : TyIs Tryz.prog 45 ⟨.slice 179, 1, 24, .slice none 0 0⟩ := tyIs_of (by kernel_rfl)
theorem ty47 : TyIs Tryz.prog 47 ⟨.struct #[⟨ "Name", 9, 0, false, "", "", 0⟩, ⟨ "Months", 44, 1, false, "", "", 16⟩, ⟨ "Rules", 45, 2, false, "", "", 40⟩, ⟨ "Week", 2, 3, false, "", "", 64⟩], 4, 72, .agg #[.string ⟨#[]⟩, .slice none 0 0, .slice none 0 0, .int .i64 0]⟩ := tyIs_of (by kernel_rfl)
theorem ty49 : TyIs Tryz.prog 49 ⟨.struct #[⟨ "Name", 9, 0, false, "", "", 0⟩, ⟨ "Works", 43, 1, false, "", "", 16⟩, ⟨ "Minute", 2, 3, false, "", "", 64⟩, ⟨ "Hour", 2, 4, false, "", "", 72⟩, ⟨ "Escape", 2, 5, false, "", "", 80⟩, ⟨ "Teeth", 2, 6, false, "", "", 88⟩, ⟨ "Beats", 2, 7, false, "", "", 96⟩, ⟨ "Calendar", 47, 8, false, "", "", 104⟩, ⟨ "Cam", 30, 12, false, "", "", 176⟩, ⟨ "Strike", 2, 13, false, "", "", 200⟩], 14, 208, .agg #[.string ⟨#[]⟩, .slice none 0 0, .slice none 0 0, .int .i64 0, .int .i64 0, .int .i64 0, .int .i64 0, .int .i64 0, .string ⟨#[]⟩, .slice none 0 0, .slice none 0 0, .int .i64 0, .slice none 0 0, .int .i64 0]⟩ := tyIs_of (by kernel_rfl)
theorem ty50 : TyIs Tryz.prog 50 ⟨.struct #[⟨ "Year", 2, 0, false, "", "", 0⟩, ⟨ "Month", 2, 1, false, "", "", 8⟩, ⟨ "Day", 2, 2, false, "", "", 16⟩], 3, 24, .agg #[.int .i64 0, .int .i64 0, .int .i64 0]⟩ := tyIs_of (by kernel_rfl)
theorem ty51 : TyIs Tryz.prog 51 ⟨.struct #[⟨ "Cam", 30, 0, false, "", "", 0⟩, ⟨ "Months", 2, 1, false, "", "", 24⟩, ⟨ "Teeth", 2, 2, false, "", "", 32⟩, ⟨ "At", 2, 3, false, "", "", 40⟩, ⟨ "Day", 2, 4, false, "", "", 48⟩, ⟨ "Week", 2, 5, false, "", "", 56⟩, ⟨ "Weekday", 2, 6, false, "", "", 64⟩], 7, 72, .agg #[.slice none 0 0, .int .i64 0, .int .i64 0, .int .i64 0, .int .i64 0, .int .i64 0, .int .i64 0]⟩ := tyIs_of (by kernel_rfl)
theorem ty53 : TyIs Tryz.prog 53 ⟨.struct #[⟨ "Movement", 49, 0, false, "", "", 0⟩, ⟨ "Start", 50, 14, false, "", "", 208⟩, ⟨ "First", 2, 17, false, "", "", 232⟩, ⟨ "Clock", 2, 18, false, "", "", 240⟩, ⟨ "Dial", 51, 19, false, "", "", 248⟩], 26, 320, .agg #[.string ⟨#[]⟩, .slice none 0 0, .slice none 0 0, .int .i64 0, .int .i64 0, .int .i64 0, .int .i64 0, .int .i64 0, .string ⟨#[]⟩, .slice none 0 0, .slice none 0 0, .int .i64 0, .slice none 0 0, .int .i64 0, .int .i64 0, .int .i64 0, .int .i64 0, .int .i64 0, .int .i64 0, .slice none 0 0, .int .i64 0, .int .i64 0, .int .i64 0, .int .i64 0, .int .i64 0, .int .i64 0]⟩ := tyIs_of (by kernel_rfl)
theorem ty62 : TyIs Tryz.prog 62 ⟨.slice 5, 1, 24, .slice none 0 0⟩ := tyIs_of (by kernel_rfl)
theorem ty74 : TyIs Tryz.prog 74 ⟨.pointer 53, 1, 8, .pointer none⟩ := tyIs_of (by kernel_rfl)
theorem ty90 : TyIs Tryz.prog 90 ⟨.pointer 51, 1, 8, .pointer none⟩ := tyIs_of (by kernel_rfl)
theorem ty93 : TyIs Tryz.prog 93 ⟨.pointer 132, 1, 8, .pointer none⟩ := tyIs_of (by kernel_rfl)
theorem ty97 : TyIs Tryz.prog 97 ⟨.pointer 49, 1, 8, .pointer none⟩ := tyIs_of (by kernel_rfl)
theorem ty109 : TyIs Tryz.prog 109 ⟨.slice 9, 1, 24, .slice none 0 0⟩ := tyIs_of (by kernel_rfl)
theorem ty130 : TyIs Tryz.prog 130 ⟨.int .u64, 1, 8, .int .u64 0⟩ := tyIs_of (by kernel_rfl)
theorem ty132 : TyIs Tryz.prog 132 ⟨.struct #[⟨ "code", 62, 0, false, "", "loop.example/g00921/spec", 0⟩, ⟨ "at", 3, 1, false, "", "loop.example/g00921/spec", 24⟩, ⟨ "seed", 130, 2, false, "", "loop.example/g00921/spec", 32⟩], 3, 40, .agg #[.slice none 0 0, .int .i64 0, .int .u64 0]⟩ := tyIs_of (by kernel_rfl)
theorem ty135 : TyIs Tryz.prog 135 ⟨.pointer 47, 1, 8, .pointer none⟩ := tyIs_of (by kernel_rfl)
theorem ty147 : TyIs Tryz.prog 147 ⟨.struct #[⟨ "Name", 9, 0, false, "", "", 0⟩, ⟨ "Days", 2, 1, false, "", "", 16⟩, ⟨ "Leap", 2, 2, false, "", "", 24⟩], 3, 32, .agg #[.string ⟨#[]⟩, .int .i64 0, .int .i64 0]⟩ := tyIs_of (by kernel_rfl)
theorem ty156 : TyIs Tryz.prog 156 ⟨.pointer 43, 1, 8, .pointer none⟩ := tyIs_of (by kernel_rfl)
theorem ty160 : TyIs Tryz.prog 160 ⟨.slice 164, 1, 24, .slice none 0 0⟩ := tyIs_of (by kernel_rfl)
theorem ty164 : TyIs Tryz.prog 164 ⟨.struct #[⟨ "Num", 2, 0, false, "", "", 0⟩, ⟨ "Den", 2, 1, false, "", "", 8⟩], 2, 16, .agg #[.int .i64 0, .int .i64 0]⟩ := tyIs_of (by kernel_rfl)
theorem ty179 : TyIs Tryz.prog 179 ⟨.struct #[⟨ "Every", 2, 0, false, "", "", 0⟩, ⟨ "Rest", 2, 1, false, "", "", 8⟩, ⟨ "Leap", 4, 2, false, "", "", 16⟩], 3, 24, .agg #[.int .i64 0, .int .i64 0, .bool false]⟩ := tyIs_of (by kernel_rfl)
theorem ty191 : TyIs Tryz.prog 191 ⟨.struct #[⟨ "Driver", 2, 0, false, "", "", 0⟩, ⟨ "Driven", 2, 1, false, "", "", 8⟩], 2, 16, .agg #[.int .i64 0, .int .i64 0]⟩ := tyIs_of (by kernel_rfl)
theorem ty192 : TyIs Tryz.prog 192 ⟨.slice 191, 1, 24, .slice none 0 0⟩ := tyIs_of (by kernel_rfl)
theorem ty204 : TyIs Tryz.prog 204 ⟨.struct #[⟨ "Train", 192, 0, false, "", "", 0⟩, ⟨ "Error", 164, 1, false, "", "", 24⟩], 3, 40, .agg #[.slice none 0 0, .int .i64 0, .int .i64 0]⟩ := tyIs_of (by kernel_rfl)
theorem ty208 : TyIs Tryz.prog 208 ⟨.struct #[⟨ "LowDriver", 2, 0, false, "", "", 0⟩, ⟨ "HighDriver", 2, 1, false, "", "", 8⟩, ⟨ "LowDriven", 2, 2, false, "", "", 16⟩, ⟨ "HighDriven", 2, 3, false, "", "", 24⟩, ⟨ "Stages", 2, 4, false, "", "", 32⟩], 5, 40, .agg #[.int .i64 0, .int .i64 0, .int .i64 0, .int .i64 0, .int .i64 0]⟩ := tyIs_of (by kernel_rfl)
theorem ty213 : TyIs Tryz.prog 213 ⟨.struct #[⟨ "Name", 9, 0, false, "", "", 0⟩, ⟨ "Wheels", 30, 1, false, "", "", 16⟩], 2, 40, .agg #[.string ⟨#[]⟩, .slice none 0 0]⟩ := tyIs_of (by kernel_rfl)
theorem ty215 : TyIs Tryz.prog 215 ⟨.struct #[⟨ "A", 2, 0, false, "", "", 0⟩, ⟨ "WheelA", 2, 1, false, "", "", 8⟩, ⟨ "B", 2, 2, false, "", "", 16⟩, ⟨ "WheelB", 2, 3, false, "", "", 24⟩], 4, 32, .agg #[.int .i64 0, .int .i64 0, .int .i64 0, .int .i64 0]⟩ := tyIs_of (by kernel_rfl)
theorem ty225 : TyIs Tryz.prog 225 ⟨.struct #[⟨ "Name", 9, 0, false, "", "", 0⟩, ⟨ "Wheels", 30, 1, false, "", "", 16⟩], 2, 40, .agg #[.string ⟨#[]⟩, .slice none 0 0]⟩ := tyIs_of (by kernel_rfl)
theorem ty227 : TyIs Tryz.prog 227 ⟨.struct #[⟨ "Name", 9, 0, false, "", "", 0⟩, ⟨ "Days", 2, 1, false, "", "", 16⟩, ⟨ "Leap", 2, 2, false, "", "", 24⟩], 3, 32, .agg #[.string ⟨#[]⟩, .int .i64 0, .int .i64 0]⟩ := tyIs_of (by kernel_rfl)
theorem ty230 : TyIs Tryz.prog 230 ⟨.pointer 213, 1, 8, .pointer none⟩ := tyIs_of (by kernel_rfl)
theorem ty237 : TyIs Tryz.prog 237 ⟨.slice 4, 1, 24, .slice none 0 0⟩ := tyIs_of (by kernel_rfl)
theorem ty244 : TyIs Tryz.prog 244 ⟨.struct #[⟨ "A", 2, 0, false, "", "", 0⟩, ⟨ "WheelA", 2, 1, false, "", "", 8⟩, ⟨ "B", 2, 2, false, "", "", 16⟩, ⟨ "WheelB", 2, 3, false, "", "", 24⟩], 4, 32, .agg #[.int .i64 0, .int .i64 0, .int .i64 0, .int .i64 0]⟩ := tyIs_of (by kernel_rfl)
theorem ty247 : TyIs Tryz.prog 247 ⟨.struct #[⟨ "Every", 2, 0, false, "", "", 0⟩, ⟨ "Rest", 2, 1, false, "", "", 8⟩, ⟨ "Leap", 4, 2, false, "", "", 16⟩], 3, 24, .agg #[.int .i64 0, .int .i64 0, .bool false]⟩ := tyIs_of (by kernel_rfl)
theorem ty261 : TyIs Tryz.prog 261 ⟨.int .u64, 1, 8, .int .u64 0⟩ := tyIs_of (by kernel_rfl)
theorem ty267 : TyIs Tryz.prog 267 ⟨.pointer 208, 1, 8, .pointer none⟩ := tyIs_of (by kernel_rfl)
theorem ty288 : TyIs Tryz.prog 288 ⟨.struct #[⟨ "Year", 2, 0, false, "", "", 0⟩, ⟨ "Month", 2, 1, false, "", "", 8⟩, ⟨ "Shown", 2, 2, false, "", "", 16⟩, ⟨ "Right", 2, 3, false, "", "", 24⟩], 4, 32, .agg #[.int .i64 0, .int .i64 0, .int .i64 0, .int .i64 0]⟩ := tyIs_of (by kernel_rfl)
theorem ty302 : TyIs Tryz.prog 302 ⟨.slice 309, 1, 24, .slice none 0 0⟩ := tyIs_of (by kernel_rfl)
theorem ty305 : TyIs Tryz.prog 305 ⟨.pointer 307, 1, 8, .pointer none⟩ := tyIs_of (by kernel_rfl)
theorem ty307 : TyIs Tryz.prog 307 ⟨.struct #[⟨ "driver", 2, 0, false, "", "loop.example/g00921/spec", 0⟩, ⟨ "driven", 2, 1, false, "", "loop.example/g00921/spec", 8⟩, ⟨ "off", 2, 2, false, "", "loop.example/g00921/spec", 16⟩, ⟨ "train", 192, 3, false, "", "loop.example/g00921/spec", 24⟩], 4, 48, .agg #[.int .i64 0, .int .i64 0, .int .i64 0, .slice none 0 0]⟩ := tyIs_of (by kernel_rfl)
theorem ty309 : TyIs Tryz.prog 309 ⟨.struct #[⟨ "value", 2, 0, false, "", "loop.example/g00921/spec", 0⟩, ⟨ "teeth", 30, 1, false, "", "loop.example/g00921/spec", 8⟩], 2, 32, .agg #[.int .i64 0, .slice none 0 0]⟩ := tyIs_of (by kernel_rfl)
theorem ty312 : TyIs Tryz.prog 312 ⟨.pointer 309, 1, 8, .pointer none⟩ := tyIs_of (by kernel_rfl)
theorem ty332 : TyIs Tryz.prog 332 ⟨.int .u8, 1, 1, .int .u8 0⟩ := tyIs_of (by kernel_rfl)
def tt : Tab := updT (updT (updT (updT (updT (updT (updT (updT (updT (updT (updT (updT (updT (updT (updT (updT (updT (updT (updT (updT (updT (updT (updT (updT (updT (updT (updT (updT (updT (updT (updT (updT (updT (updT (updT (updT (updT (updT (updT (updT (updT (updT (updT (updT (updT (updT (updT (updT (updT (updT (updT (updT (updT (updT (updT (updT (updT (updT (updT (updT (updT (updT (updT (updT (updT (updT (updT (updT (updT (updT (updT ((fun _ => none)) 2 ⟨.int .i64, 1, 8, .int .i64 0⟩) 3 ⟨.int .i64, 1, 8, .int .i64 0⟩) 4 ⟨.bool, 1, 1, .bool false⟩) 5 ⟨.int .u8, 1, 1, .int .u8 0⟩) 6 ⟨.int .u8, 1, 1, .int .u8 0⟩) 8 ⟨.struct #[⟨ "x", 2, 0, false, "", "runtime", 0⟩, ⟨ "y", 3, 1, false, "", "runtime", 8⟩, ⟨ "signed", 4, 2, false, "", "runtime", 16⟩, ⟨ "code", 6, 3, false, "", "runtime", 17⟩], 4, 24, .agg #[.int .i64 0, .int .i64 0, .bool false, .int .u8 0]⟩) 9 ⟨.string, 1, 16, .string ⟨#[]⟩⟩) 10 ⟨.string, 1, 16, .string ⟨#[]⟩⟩) 11 ⟨.string, 1, 16, .string ⟨#[]⟩⟩) 12 ⟨.int .u64, 1, 8, .int .u64 0⟩) 14 ⟨.struct #[⟨ "msg", 9, 0, false, "", "runtime", 0⟩, ⟨ "addr", 12, 1, false, "", "runtime", 16⟩], 2, 24, .agg #[.string ⟨#[]⟩, .int .u64 0]⟩) 15 ⟨.pointer 325, 1, 8, .pointer none⟩) 16 ⟨.pointer 328, 1, 8, .pointer none⟩) 17 ⟨.pointer 338, 1, 8, .pointer none⟩) 19 ⟨.struct #[⟨ "typ", 17, 0, false, "", "internal/runtime/maps", 0⟩], 1, 8, .agg #[.pointer none]⟩) 22 ⟨.slice 225, 1, 24, .slice none 0 0⟩) 23 ⟨.slice 244, 1, 24, .slice none 0 0⟩) 25 ⟨.struct #[⟨ "Arbors", 22, 0, false, "", "", 0⟩, ⟨ "Meshes", 23, 1, false, "", "", 24⟩], 2, 48, .agg #[.slice none 0 0, .slice none 0 0]⟩) 26 ⟨.slice 227, 1, 24, .slice none 0 0⟩) 27 ⟨.slice 247, 1, 24, .slice none 0 0⟩) 29 ⟨.struct #[⟨ "Name", 9, 0, false, "", "", 0⟩, ⟨ "Months", 26, 1, false, "", "", 16⟩, ⟨ "Rules", 27, 2, false, "", "", 40⟩, ⟨ "Week", 2, 3, false, "", "", 64⟩], 4, 72, .agg #[.string ⟨#[]⟩, .slice none 0 0, .slice none 0 0, .int .i64 0]⟩) 30 ⟨.slice 2, 1, 24, .slice none 0 0⟩) 32 ⟨.struct #[⟨ "Name", 9, 0, false, "", "", 0⟩, ⟨ "Works", 25, 1, false, "", "", 16⟩, ⟨ "Minute", 2, 3, false, "", "", 64⟩, ⟨ "Hour", 2, 4, false, "", "", 72⟩, ⟨ "Escape", 2, 5, false, "", "", 80⟩, ⟨ "Teeth", 2, 6, false, "", "", 88⟩, ⟨ "Beats", 2, 7, false, "", "", 96⟩, ⟨ "Calendar", 29, 8, false, "", "", 104⟩, ⟨ "Cam", 30, 12, false, "", "", 176⟩, ⟨ "Strike", 2, 13, false, "", "", 200⟩], 14, 208, .agg #[.string ⟨#[]⟩, .slice none 0 0, .slice none 0 0, .int .i64 0, .int .i64 0, .int .i64 0, .int .i64 0, .int .i64 0, .string ⟨#[]⟩, .slice none 0 0, .slice none 0 0, .int .i64 0, .slice none 0 0, .int .i64 0]⟩) 34 ⟨.struct #[⟨ "Year", 2, 0, false, "", "", 0⟩, ⟨ "Month", 2, 1, false, "", "", 8⟩, ⟨ "Day", 2, 2, false, "", "", 16⟩], 3, 24, .agg #[.int .i64 0, .int .i64 0, .int .i64 0]⟩) 36 ⟨.struct #[⟨ "Cam", 30, 0, false, "", "", 0⟩, ⟨ "Months", 2, 1, false, "", "", 24⟩, ⟨ "Teeth", 2, 2, false, "", "", 32⟩, ⟨ "At", 2, 3, false, "", "", 40⟩, ⟨ "Day", 2, 4, false, "", "", 48⟩, ⟨ "Week", 2, 5, false, "", "", 56⟩, ⟨ "Weekday", 2, 6, false, "", "", 64⟩], 7, 72, .agg #[.slice none 0 0, .int .i64 0, .int .i64 0, .int .i64 0, .int .i64 0, .int .i64 0, .int .i64 0]⟩) 38 ⟨.struct #[⟨ "Movement", 32, 0, false, "", "", 0⟩, ⟨ "Start", 34, 14, false, "", "", 208⟩, ⟨ "First", 2, 17, false, "", "", 232⟩, ⟨ "Clock", 2, 18, false, "", "", 240⟩, ⟨ "Dial", 36, 19, false, "", "", 248⟩], 26, 320, .agg #[.string ⟨#[]⟩, .slice none 0 0, .slice none 0 0, .int .i64 0, .int .i64 0, .int .i64 0, .int .i64 0, .int .i64 0, .string ⟨#[]⟩, .slice none 0 0, .slice none 0 0, .int .i64 0, .slice none 0 0, .int .i64 0, .int .i64 0, .int .i64 0, .int .i64 0, .int .i64 0, .int .i64 0, .slice none 0 0, .int .i64 0, .int .i64 0, .int .i64 0, .int .i64 0, .int .i64 0, .int .i64 0]⟩) 40 ⟨.slice 213, 1, 24, .slice none 0 0⟩) 41 ⟨.slice 215, 1, 24, .slice none 0 0⟩) 43 ⟨.struct #[⟨ "Arbors", 40, 0, false, "", "", 0⟩, ⟨ "Meshes", 41, 1, false, "", "", 24⟩], 2, 48, .agg #[.slice none 0 0, .slice none 0 0]⟩) 44 ⟨.slice 147, 1, 24, .slice none 0 0⟩) 45 ⟨.slice 179, 1, 24, .slice none 0 0⟩) 47 ⟨.struct #[⟨ "Name", 9, 0, false, "", "", 0⟩, ⟨ "Months", 44, 1, false, "", "", 16⟩, ⟨ "Rules", 45, 2, false, "", "", 40⟩, ⟨ "Week", 2, 3, false, "", "", 64⟩], 4, 72, .agg #[.string ⟨#[]⟩, .slice none 0 0, .slice none 0 0, .int .i64 0]⟩) 49 ⟨.struct #[⟨ "Name", 9, 0, false, "", "", 0⟩, ⟨ "Works", 43, 1, false, "", "", 16⟩, ⟨ "Minute", 2, 3, false, "", "", 64⟩, ⟨ "Hour", 2, 4, false, "", "", 72⟩, ⟨ "Escape", 2, 5, false, "", "", 80⟩, ⟨ "Teeth", 2, 6, false, "", "", 88⟩, ⟨ "Beats", 2, 7, false, "", "", 96⟩, ⟨ "Calendar", 47, 8, false, "", "", 104⟩, ⟨ "Cam", 30, 12, false, "", "", 176⟩, ⟨ "Strike", 2, 13, false, "", "", 200⟩], 14, 208, .agg #[.string ⟨#[]⟩, .slice none 0 0, .slice none 0 0, .int .i64 0, .int .i64 0, .int .i64 0, .int .i64 0, .int .i64 0, .string ⟨#[]⟩, .slice none 0 0, .slice none 0 0, .int .i64 0, .slice none 0 0, .int .i64 0]⟩) 50 ⟨.struct #[⟨ "Year", 2, 0, false, "", "", 0⟩, ⟨ "Month", 2, 1, false, "", "", 8⟩, ⟨ "Day", 2, 2, false, "", "", 16⟩], 3, 24, .agg #[.int .i64 0, .int .i64 0, .int .i64 0]⟩) 51 ⟨.struct #[⟨ "Cam", 30, 0, false, "", "", 0⟩, ⟨ "Months", 2, 1, false, "", "", 24⟩, ⟨ "Teeth", 2, 2, false, "", "", 32⟩, ⟨ "At", 2, 3, false, "", "", 40⟩, ⟨ "Day", 2, 4, false, "", "", 48⟩, ⟨ "Week", 2, 5, false, "", "", 56⟩, ⟨ "Weekday", 2, 6, false, "", "", 64⟩], 7, 72, .agg #[.slice none 0 0, .int .i64 0, .int .i64 0, .int .i64 0, .int .i64 0, .int .i64 0, .int .i64 0]⟩) 53 ⟨.struct #[⟨ "Movement", 49, 0, false, "", "", 0⟩, ⟨ "Start", 50, 14, false, "", "", 208⟩, ⟨ "First", 2, 17, false, "", "", 232⟩, ⟨ "Clock", 2, 18, false, "", "", 240⟩, ⟨ "Dial", 51, 19, false, "", "", 248⟩], 26, 320, .agg #[.string ⟨#[]⟩, .slice none 0 0, .slice none 0 0, .int .i64 0, .int .i64 0, .int .i64 0, .int .i64 0, .int .i64 0, .string ⟨#[]⟩, .slice none 0 0, .slice none 0 0, .int .i64 0, .slice none 0 0, .int .i64 0, .int .i64 0, .int .i64 0, .int .i64 0, .int .i64 0, .int .i64 0, .slice none 0 0, .int .i64 0, .int .i64 0, .int .i64 0, .int .i64 0, .int .i64 0, .int .i64 0]⟩) 62 ⟨.slice 5, 1, 24, .slice none 0 0⟩) 74 ⟨.pointer 53, 1, 8, .pointer none⟩) 90 ⟨.pointer 51, 1, 8, .pointer none⟩) 93 ⟨.pointer 132, 1, 8, .pointer none⟩) 97 ⟨.pointer 49, 1, 8, .pointer none⟩) 109 ⟨.slice 9, 1, 24, .slice none 0 0⟩) 130 ⟨.int .u64, 1, 8, .int .u64 0⟩) 132 ⟨.struct #[⟨ "code", 62, 0, false, "", "loop.example/g00921/spec", 0⟩, ⟨ "at", 3, 1, false, "", "loop.example/g00921/spec", 24⟩, ⟨ "seed", 130, 2, false, "", "loop.example/g00921/spec", 32⟩], 3, 40, .agg #[.slice none 0 0, .int .i64 0, .int .u64 0]⟩) 135 ⟨.pointer 47, 1, 8, .pointer none⟩) 147 ⟨.struct #[⟨ "Name", 9, 0, false, "", "", 0⟩, ⟨ "Days", 2, 1, false, "", "", 16⟩, ⟨ "Leap", 2, 2, false, "", "", 24⟩], 3, 32, .agg #[.string ⟨#[]⟩, .int .i64 0, .int .i64 0]⟩) 156 ⟨.pointer 43, 1, 8, .pointer none⟩) 160 ⟨.slice 164, 1, 24, .slice none 0 0⟩) 164 ⟨.struct #[⟨ "Num", 2, 0, false, "", "", 0⟩, ⟨ "Den", 2, 1, false, "", "", 8⟩], 2, 16, .agg #[.int .i64 0, .int .i64 0]⟩) 179 ⟨.struct #[⟨ "Every", 2, 0, false, "", "", 0⟩, ⟨ "Rest", 2, 1, false, "", "", 8⟩, ⟨ "Leap", 4, 2, false, "", "", 16⟩], 3, 24, .agg #[.int .i64 0, .int .i64 0, .bool false]⟩) 191 ⟨.struct #[⟨ "Driver", 2, 0, false, "", "", 0⟩, ⟨ "Driven", 2, 1, false, "", "", 8⟩], 2, 16, .agg #[.int .i64 0, .int .i64 0]⟩) 192 ⟨.slice 191, 1, 24, .slice none 0 0⟩) 204 ⟨.struct #[⟨ "Train", 192, 0, false, "", "", 0⟩, ⟨ "Error", 164, 1, false, "", "", 24⟩], 3, 40, .agg #[.slice none 0 0, .int .i64 0, .int .i64 0]⟩) 208 ⟨.struct #[⟨ "LowDriver", 2, 0, false, "", "", 0⟩, ⟨ "HighDriver", 2, 1, false, "", "", 8⟩, ⟨ "LowDriven", 2, 2, false, "", "", 16⟩, ⟨ "HighDriven", 2, 3, false, "", "", 24⟩, ⟨ "Stages", 2, 4, false, "", "", 32⟩], 5, 40, .agg #[.int .i64 0, .int .i64 0, .int .i64 0, .int .i64 0, .int .i64 0]⟩) 213 ⟨.struct #[⟨ "Name", 9, 0, false, "", "", 0⟩, ⟨ "Wheels", 30, 1, false, "", "", 16⟩], 2, 40, .agg #[.string ⟨#[]⟩, .slice none 0 0]⟩) 215 ⟨.struct #[⟨ "A", 2, 0, false, "", "", 0⟩, ⟨ "WheelA", 2, 1, false, "", "", 8⟩, ⟨ "B", 2, 2, false, "", "", 16⟩, ⟨ "WheelB", 2, 3, false, "", "", 24⟩], 4, 32, .agg #[.int .i64 0, .int .i64 0, .int .i64 0, .int .i64 0]⟩) 225 ⟨.struct #[⟨ "Name", 9, 0, false, "", "", 0⟩, ⟨ "Wheels", 30, 1, false, "", "", 16⟩], 2, 40, .agg #[.string ⟨#[]⟩, .slice none 0 0]⟩) 227 ⟨.struct #[⟨ "Name", 9, 0, false, "", "", 0⟩, ⟨ "Days", 2, 1, false, "", "", 16⟩, ⟨ "Leap", 2, 2, false, "", "", 24⟩], 3, 32, .agg #[.string ⟨#[]⟩, .int .i64 0, .int .i64 0]⟩) 230 ⟨.pointer 213, 1, 8, .pointer none⟩) 237 ⟨.slice 4, 1, 24, .slice none 0 0⟩) 244 ⟨.struct #[⟨ "A", 2, 0, false, "", "", 0⟩, ⟨ "WheelA", 2, 1, false, "", "", 8⟩, ⟨ "B", 2, 2, false, "", "", 16⟩, ⟨ "WheelB", 2, 3, false, "", "", 24⟩], 4, 32, .agg #[.int .i64 0, .int .i64 0, .int .i64 0, .int .i64 0]⟩) 247 ⟨.struct #[⟨ "Every", 2, 0, false, "", "", 0⟩, ⟨ "Rest", 2, 1, false, "", "", 8⟩, ⟨ "Leap", 4, 2, false, "", "", 16⟩], 3, 24, .agg #[.int .i64 0, .int .i64 0, .bool false]⟩) 261 ⟨.int .u64, 1, 8, .int .u64 0⟩) 267 ⟨.pointer 208, 1, 8, .pointer none⟩) 288 ⟨.struct #[⟨ "Year", 2, 0, false, "", "", 0⟩, ⟨ "Month", 2, 1, false, "", "", 8⟩, ⟨ "Shown", 2, 2, false, "", "", 16⟩, ⟨ "Right", 2, 3, false, "", "", 24⟩], 4, 32, .agg #[.int .i64 0, .int .i64 0, .int .i64 0, .int .i64 0]⟩) 302 ⟨.slice 309, 1, 24, .slice none 0 0⟩) 305 ⟨.pointer 307, 1, 8, .pointer none⟩) 307 ⟨.struct #[⟨ "driver", 2, 0, false, "", "loop.example/g00921/spec", 0⟩, ⟨ "driven", 2, 1, false, "", "loop.example/g00921/spec", 8⟩, ⟨ "off", 2, 2, false, "", "loop.example/g00921/spec", 16⟩, ⟨ "train", 192, 3, false, "", "loop.example/g00921/spec", 24⟩], 4, 48, .agg #[.int .i64 0, .int .i64 0, .int .i64 0, .slice none 0 0]⟩) 309 ⟨.struct #[⟨ "value", 2, 0, false, "", "loop.example/g00921/spec", 0⟩, ⟨ "teeth", 30, 1, false, "", "loop.example/g00921/spec", 8⟩], 2, 32, .agg #[.int .i64 0, .slice none 0 0]⟩) 312 ⟨.pointer 309, 1, 8, .pointer none⟩) 332 ⟨.int .u8, 1, 1, .int .u8 0⟩
theorem tok : TOk Tryz.prog tt := (tok_upd (tok_upd (tok_upd (tok_upd (tok_upd (tok_upd (tok_upd (tok_upd (tok_upd (tok_upd (tok_upd (tok_upd (tok_upd (tok_upd (tok_upd (tok_upd (tok_upd (tok_upd (tok_upd (tok_upd (tok_upd (tok_upd (tok_upd (tok_upd (tok_upd (tok_upd (tok_upd (tok_upd (tok_upd (tok_upd (tok_upd (tok_upd (tok_upd (tok_upd (tok_upd (tok_upd (tok_upd (tok_upd (tok_upd (tok_upd (tok_upd (tok_upd (tok_upd (tok_upd (tok_upd (tok_upd (tok_upd (tok_upd (tok_upd (tok_upd (tok_upd (tok_upd (tok_upd (tok_upd (tok_upd (tok_upd (tok_upd (tok_upd (tok_upd (tok_upd (tok_upd (tok_upd (tok_upd (tok_upd (tok_upd (tok_upd (tok_upd (tok_upd (tok_upd (tok_upd (tok_upd (tok_nil _) ty2) ty3) ty4) ty5) ty6) ty8) ty9) ty10) ty11) ty12) ty14) ty15) ty16) ty17) ty19) ty22) ty23) ty25) ty26) ty27) ty29) ty30) ty32) ty34) ty36) ty38) ty40) ty41) ty43) ty44) ty45) ty47) ty49) ty50) ty51) ty53) ty62) ty74) ty90) ty93) ty97) ty109) ty130) ty132) ty135) ty147) ty156) ty160) ty164) ty179) ty191) ty192) ty204) ty208) ty213) ty215) ty225) ty227) ty230) ty237) ty244) ty247) ty261) ty267) ty288) ty302) ty305) ty307) ty309) ty312) ty332)
theorem follows : Tryz.prog.follows .mixedOrders = true := by kernel_rfl
end Go.Proofs.YtlakbomkpnlidaaGreat
