/- An abstract machine, O: elder contracts brought over. No program. -/
import Derived.Test.YtjhadibjjldpdaaGreatAmN
namespace Go.Proofs.YtjhadibjjldpdaaGreat
open Go.RowKit
set_option linter.unusedVariables false
set_option maxRecDepth 100000
section
variable {P : Program}
def toVs : List AV → Option (List Value)
  | [] => some []
  | a :: as => match toV a, toVs as with
    | some v, some l => some (v :: l)
    | _, _ => none
theorem toVs_rep {w : World} {F : Nat → Prop} {μ : Places} {h : Heap} : ∀ {as : List AV} {l : List Value} (vs : List Value), toVs as = some l → vs.length = as.length → (∀ (i : Nat) v a, vs[i]? = some v → as[i]? = some a → ARep w F μ h v a) → vs = l
  | [], l, vs, hl, hs, _ => by
    simp [toVs] at hl
    subst hl
    exact List.eq_nil_of_length_eq_zero hs
  | a :: as, l, vs, hl, hs, hr => by
    match vs, hs with
    | v :: vs, hs =>
      unfold toVs at hl
      split at hl
      · rename_i v' l' h1 h2
        injection hl with hl
        subst hl
        rw [toV_rep h1 (hr 0 v a rfl rfl), toVs_rep vs h2 (by simpa using hs) fun i v a h3 h4 => hr (i + 1) v a h3 h4]
      · cases hl
theorem HInv.of_below {w w' : World} {F : Nat → Prop} {μ : Places} {gl : Glob F w} (H : HInv ⟨w, F, μ, lks [], gl⟩ F μ (lks []) w) (b : Below w.heap.size w w') : HInv ⟨w, F, μ, lks [], gl⟩ F μ (lks []) w' := by
  have no : ∀ {k f o}, lv (lks []) k f = some o → False := fun hl => by simp [lv, lks] at hl
  exact ⟨fun k f o hl => (no hl).elim, fun k f o k' f' o' b hl => (no hl).elim, fun k f o b hl => (no hl).elim, fun k f o b hl => (no hl).elim, fun x hx => Nat.lt_of_lt_of_le (H.fz x hx) b.size, fun b hb => .inl hb,
    ⟨fun x hx => b.block x (H.fz x hx), fun _ hb => hb, fun _ hb => hb, fun k f o' hk ho' => (no ho').elim⟩, b.os, b.tape, b.output, b.size, fun x hx _ => b.block x hx⟩
/-- a contract over values -/
theorem fnc_of {f : FuncId} {as : List AV} {vs : List Value} {v : Value} (hc : callB P f = true) (hv : toVs as = some vs) (h : ∀ W, Calls P f vs.toArray W fun e w' => e = .returned v ∧ Below W.heap.size W w') : FnC P f [] as [] (constA v) := by
  refine ⟨hc, fun w F μ us gl H hs hr => ?_⟩
  have e : us.toList = vs := toVs_rep us.toList hv (by simpa using hs) fun i u a h1 h2 => hr i u a (by simpa using h1) h2
  have e2 : us = vs.toArray := by rw [← e]
  rw [e2]
  refine (h w).mono ?_
  rintro e w' ⟨rfl, hb⟩
  exact ⟨v, F, μ, rfl, H.of_below hb, constA_rep v⟩
/-- the same, with what is known of package-level variables -/
theorem fnc_ofG {f : FuncId} {as : List AV} {vs : List Value} {v : Value} (hc : callB P f = true) (hv : toVs as = some vs) (h : ∀ (W : World) (F : Nat → Prop), Glob F W → Calls P f vs.toArray W fun e w' => e = .returned v ∧ Below W.heap.size W w') : FnC P f [] as [] (constA v) := by
  refine ⟨hc, fun w F μ us gl H hs hr => ?_⟩
  have e : us.toList = vs := toVs_rep us.toList hv (by simpa using hs) fun i u a h1 h2 => hr i u a (by simpa using h1) h2
  have e2 : us = vs.toArray := by rw [← e]
  rw [e2]
  refine (h w F gl).mono ?_
  rintro e w' ⟨rfl, hb⟩
  exact ⟨v, F, μ, rfl, H.of_below hb, constA_rep v⟩
end
end Go.Proofs.YtjhadibjjldpdaaGreat
