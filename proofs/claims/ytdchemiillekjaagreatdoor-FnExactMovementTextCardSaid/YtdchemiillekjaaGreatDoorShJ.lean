/- strings.Join, by the shelf's contract. -/
import Derived.Test.YtdchemiillekjaaGreatDoorAmY
import Derived.Test.YtdchemiillekjaaGreatDoorProg
import Derived.Shelf.Strings.OnBuilder
import Derived.Test.YtdchemiillekjaaGreatDoorShLJ
namespace Go.Proofs.YtdchemiillekjaaGreatDoor
open Go.Shelf Go.RowKit
set_option linter.unusedVariables false
set_option maxRecDepth 100000
theorem joinX : Builder.Extra Tryz.prog Tryz.layLaysn156_ren := {
  sizeBuilder := by kernel_rfl
  liesBuilder := by kernel_rfl
  t5 := Tryz.underlying5
  a5 := Tryz.isAgg5
  z5 := Tryz.sizeOf5
  v5 := Tryz.zeroValue5
  infoByte := by kernel_rfl
  cellsByte := by kernel_rfl
  sizeByte := by kernel_rfl
  neB5 := by decide }

theorem rep_str {w : World} {F : Nat → Prop} {v : Value} {s : ByteArray} (h : DRep w F v (.v (.string s))) : v = .string s := by cases h; rfl
theorem sh_join {xs : List ByteArray} {sep : ByteArray} (hN : xs.length ≤ 140737488355328) (hlen : (joinT xs sep).size ≤ 140737488355328) : FnC Tryz.prog 25 [] [.d (.sl (xs.map cS)), .d (.v (.string sep))] [] (.d (.v (.string (joinT xs sep)))) := by
  refine ⟨by kernel_rfl, fun w F μ us gl H hs hr => ?_⟩
  obtain ⟨u0, u1, rfl⟩ : ∃ u0 u1, us = #[u0, u1] := by
    obtain ⟨l⟩ := us
    match l, hs with
    | [a, b], _ => exact ⟨a, b, rfl⟩
  have e1 : u1 = .string sep := by
    have := hr 1 u1 _ rfl rfl
    cases this with | d _ _ hd => exact rep_str hd
  subst e1
  have h0 : DRep w F u0 (.sl (xs.map cS)) := by
    have := hr 0 u0 _ rfl rfl
    cases this with | d _ _ hd => exact hd
  generalize hes : xs.map cS = es at h0
  have done : ∀ (e : Ending) (w' : World), (e = .returned (.string (joinT xs sep)) ∧ Below w.heap.size w w') → ∃ v F' μ', e = .returned v ∧ HInv ⟨w, F, μ, lks [], gl⟩ F' μ' (lks []) w' ∧ ARep w' F' μ' (lks []) v (.d (.v (.string (joinT xs sep)))) := by
    rintro e w' ⟨rfl, hb⟩
    exact ⟨_, F, μ, rfl, H.of_below hb, .d _ _ (.v _ rfl)⟩
  cases h0 with
  | nil =>
    have : xs = [] := List.map_eq_nil_iff.1 hes
    subst this
    exact (Any.strings_Join_none Tryz.layLaysn156 joinX none 0 sep w).mono fun e w' h => done e w' ⟨h.1, h.2 ▸ Below.refl _ _⟩
  | emp A c hm =>
    have : xs = [] := List.map_eq_nil_iff.1 hes
    subst this
    exact (Any.strings_Join_none Tryz.layLaysn156 joinX A c sep w).mono fun e w' h => done e w' ⟨h.1, h.2 ▸ Below.refl _ _⟩
  | sl b off c sz es g hF hc hm hz hg hr2 =>
    subst hes
    have hl : (xs.map cS).length = xs.length := List.length_map _
    rw [hl]
    refine (Any.strings_Join Tryz.layLaysn156 joinX b off c xs sep w ?_ (H.fz b hF) hN (by omega) (by simpa [joinT, ByteArray.size] using hlen)).mono fun e w' h => done e w' h
    intro j x hx
    have h1 : (xs.map cS)[j]? = some (cS x) := by simp [hx]
    have h2 := hz j _ h1
    have h3 : sz = 1 := by rw [← h2]; rfl
    subst h3
    have h4 := hg j _ 0 (.v (.string x)) h1 rfl
    have h5 := rep_str (hr2 j _ 0 (.v (.string x)) h1 rfl)
    rw [h5] at h4
    simpa using h4
end Go.Proofs.YtdchemiillekjaaGreatDoor
