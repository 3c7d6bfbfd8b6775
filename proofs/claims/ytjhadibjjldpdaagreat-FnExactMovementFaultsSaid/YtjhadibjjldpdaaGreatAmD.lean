/- An abstract machine, D: joining a callee's memory to the caller's. No program. -/
import Derived.Test.YtjhadibjjldpdaaGreatAmC
namespace Go.Proofs.YtjhadibjjldpdaaGreat
open Go.RowKit
set_option linter.unusedVariables false
set_option maxRecDepth 100000
section
variable {E : Env} {F Fc F1 F' : Nat → Prop} {μ μ1 μ' : Places} {h hc h1 h' : Heap} {w w1 : World} {ι : Nat → Nat}

theorem ObjRep.ren (R : Ren ι μ h μ' h') {p : Option Nat} {o : AObj} (r : ObjRep w F μ h p o) : ObjRep w F μ' h' p (o.ren ι) := by
  rcases r with ⟨h1, h2⟩ | ⟨b, cur, h1, h2, h3⟩
  · exact .inl ⟨h1, by simpa [AObj.ren, Cells.ren_len] using h2⟩
  · refine .inr ⟨b, cur, h1, h2, fun i cells hi => ?_⟩
    simp only [AObj.ren, Cells.ren_get] at hi
    obtain ⟨c0, hc0, rfl⟩ := Option.map_eq_some_iff.1 hi
    refine ⟨by rw [renL_len]; exact (h3 i c0 hc0).1, fun j c hj => ?_⟩
    rw [renL_get] at hj
    obtain ⟨c1, hc1, rfl⟩ := Option.map_eq_some_iff.1 hj
    obtain ⟨u, hu, hr⟩ := (h3 i c0 hc0).2 j c1 hc1
    exact ⟨u, hu, hr.ren R⟩

theorem HInv.join {gl : Glob F w} (H : HInv E F μ h w) (hι : ∀ p q, ι p = ι q → p = q) (R : Ren ι (fun p f => μ (ι p) f) hc μ h) (H1 : HInv ⟨w, F, fun p f => μ (ι p) f, hc, gl⟩ F' μ1 h1 w1)
    (R1 : Ren ι μ1 h1 μ' h') (hout : ∀ k, (∀ p, k ≠ ι p) → h' k = h k ∧ ∀ f, μ' k f = μ k f) : HInv E F' μ' h' w1 ∧ Evo w F μ h w1 F' μ' h' := by
  have own : ∀ {b}, Env.O0 ⟨w, F, fun p f => μ (ι p) f, hc, gl⟩ b → ∃ p f o, lv h (ι p) f = some o ∧ μ (ι p) f = some b := fun ⟨p, f, o, hl, hm⟩ => ⟨p, f, _, by rw [R.lv_, hl]; rfl, hm⟩
  have far : ∀ {k f o b}, (∀ p, k ≠ ι p) → lv h k f = some o → μ k f = some b → ¬ Env.O0 ⟨w, F, fun p f => μ (ι p) f, hc, gl⟩ b := fun hk hl hm hO => by
    obtain ⟨p, f', o', hl', hm'⟩ := own hO
    exact hk p (H.inj _ _ _ _ _ _ _ hl hl' hm hm').1
  have stay : ∀ {k f o b}, (∀ p, k ≠ ι p) → lv h k f = some o → μ k f = some b → w1.heap[b]? = w.heap[b]? := fun hk hl hm => H1.keep _ (H.lt hl hm) (far hk hl hm)
  have lvout : ∀ {k f}, (∀ p, k ≠ ι p) → lv h' k f = lv h k f := fun hk => by simp [lv, (hout _ hk).1]
  have V : Evo w F μ h w1 F' μ' h' := by
    refine ⟨H1.ev.fr, H1.ev.fs, fun k hk => ?_, fun k f o' hk ho' => ?_⟩
    · by_cases e : ∃ p, k = ι p
      · obtain ⟨p, rfl⟩ := e
        intro e
        exact H1.ev.born p (fun e2 => hk ((R.no_ p).2 e2)) ((R1.no_ p).1 e)
      · rw [(hout k (fun p hp => e ⟨p, hp⟩)).1]; exact hk
    · by_cases e : ∃ p, k = ι p
      · obtain ⟨p, rfl⟩ := e
        rw [R1.lv_] at ho'
        obtain ⟨o1, ho1, rfl⟩ := Option.map_eq_some_iff.1 ho'
        obtain ⟨o, ho, hx⟩ := H1.ev.live p f o1 (fun e2 => hk ((R.no_ p).2 e2)) ho1
        refine ⟨o.ren ι, by rw [R.lv_, ho]; rfl, ?_⟩
        rw [R1.m]
        simpa [AObj.ren, Cells.ren_len] using hx
      · have hk' : ∀ p, k ≠ ι p := fun p hp => e ⟨p, hp⟩
        rw [lvout hk'] at ho'
        exact ⟨o', ho', .inr ⟨rfl, rfl, (hout k hk').2 f, fun b cur hm hcu => ⟨cur, (stay hk' ho' hm).trans hcu, rfl⟩⟩⟩
  refine ⟨⟨fun k f o hl => ?_, fun k f o k2 f2 o2 b l1 l2 m1 m2 => ?_, fun k f o b hl hm => ?_, fun k f o b hl hm => ?_, H1.fz, fun b hb => ?_, H.ev.trans V, H1.os.trans H.os, H1.tape.trans H.tape, H1.output.trans H.output, Nat.le_trans H.size H1.size, fun b hb1 hb2 => ?_⟩, V⟩
  · by_cases e : ∃ p, k = ι p
    · obtain ⟨p, rfl⟩ := e
      rw [R1.lv_] at hl
      obtain ⟨o1, ho1, rfl⟩ := Option.map_eq_some_iff.1 hl
      rw [R1.m]
      exact (H1.ob p f o1 ho1).ren R1
    · have hk' : ∀ p, k ≠ ι p := fun p hp => e ⟨p, hp⟩
      rw [lvout hk'] at hl
      rw [(hout k hk').2]
      exact (H.ob k f o hl).evo V fun b hm => stay hk' hl hm
  · have mix : ∀ {p f o k2 f2 o2}, lv h' (ι p) f = some o → (∀ q, k2 ≠ ι q) → lv h' k2 f2 = some o2 → μ' (ι p) f = some b → μ' k2 f2 = some b → False := fun {p f o k2 f2 o2} l1 hk2 l2 m1 m2 => by
      rw [R1.lv_] at l1
      obtain ⟨o1, ho1, rfl⟩ := Option.map_eq_some_iff.1 l1
      rw [R1.m] at m1
      rw [lvout hk2] at l2
      rw [(hout _ hk2).2] at m2
      rcases H1.src p f o1 b ho1 m1 with hs | hs
      · exact far hk2 l2 m2 hs
      · have := H.lt l2 m2; have hs : w.heap.size ≤ b := hs; omega
    by_cases e : ∃ p, k = ι p
    · obtain ⟨p, rfl⟩ := e
      by_cases e2 : ∃ q, k2 = ι q
      · obtain ⟨q, rfl⟩ := e2
        rw [R1.lv_] at l1 l2
        obtain ⟨o1, ho1, rfl⟩ := Option.map_eq_some_iff.1 l1
        obtain ⟨o3, ho3, rfl⟩ := Option.map_eq_some_iff.1 l2
        rw [R1.m] at m1 m2
        obtain ⟨rfl, rfl⟩ := H1.inj _ _ _ _ _ _ b ho1 ho3 m1 m2
        exact ⟨rfl, rfl⟩
      · exact (mix l1 (fun q hq => e2 ⟨q, hq⟩) l2 m1 m2).elim
    · by_cases e2 : ∃ q, k2 = ι q
      · obtain ⟨q, rfl⟩ := e2
        exact (mix l2 (fun q hq => e ⟨q, hq⟩) l1 m2 m1).elim
      · have a1 : ∀ p, k ≠ ι p := fun p hp => e ⟨p, hp⟩
        have a2 : ∀ p, k2 ≠ ι p := fun p hp => e2 ⟨p, hp⟩
        rw [lvout a1] at l1; rw [lvout a2] at l2
        rw [(hout _ a1).2] at m1; rw [(hout _ a2).2] at m2
        exact H.inj _ _ _ _ _ _ b l1 l2 m1 m2
  · by_cases e : ∃ p, k = ι p
    · obtain ⟨p, rfl⟩ := e
      rw [R1.lv_] at hl
      obtain ⟨o1, ho1, rfl⟩ := Option.map_eq_some_iff.1 hl
      rw [R1.m] at hm
      exact H1.sep p f o1 b ho1 hm
    · have hk' : ∀ p, k ≠ ι p := fun p hp => e ⟨p, hp⟩
      rw [lvout hk'] at hl; rw [(hout _ hk').2] at hm
      intro hb
      rcases H1.fsrc b hb with hs | hs | hs
      · exact H.sep _ _ _ b hl hm hs
      · exact far hk' hl hm hs
      · have := H.lt hl hm; have hs : w.heap.size ≤ b := hs; omega
  · by_cases e : ∃ p, k = ι p
    · obtain ⟨p, rfl⟩ := e
      rw [R1.lv_] at hl
      obtain ⟨o1, ho1, rfl⟩ := Option.map_eq_some_iff.1 hl
      rw [R1.m] at hm
      rcases H1.src p f o1 b ho1 hm with hs | hs
      · obtain ⟨p', f', o', hl', hm'⟩ := own hs
        exact H.src _ _ _ b hl' hm'
      · have := H.size; have hs : w.heap.size ≤ b := hs; exact .inr (by omega)
    · have hk' : ∀ p, k ≠ ι p := fun p hp => e ⟨p, hp⟩
      rw [lvout hk'] at hl; rw [(hout _ hk').2] at hm
      exact H.src _ _ _ b hl hm
  · rcases H1.fsrc b hb with hs | hs | hs
    · exact H.fsrc b hs
    · obtain ⟨p', f', o', hl', hm'⟩ := own hs
      exact .inr (H.src _ _ _ b hl' hm')
    · have := H.size; have hs : w.heap.size ≤ b := hs; exact .inr (.inr (by omega))
  · have := H.size
    have hno : ¬ Env.O0 ⟨w, F, fun p f => μ (ι p) f, hc, gl⟩ b := fun hO => by
      obtain ⟨p', f', o', hl', hm'⟩ := own hO
      rcases H.src _ _ _ b hl' hm' with hs | hs
      · exact hb2 hs
      · omega
    exact (H1.keep b (show b < w.heap.size by omega) hno).trans (H.keep b hb1 hb2)

/-- a callee that got no memory of the caller's but sees some of it as frozen, and gives back no by-value slice -/
theorem HInv.flatF {gl : Glob Fc w} {gl' : Glob F w} {D : Nat → Prop} (hD : ∀ b, Fc b → F b ∨ D b) (hF : ∀ b, F b → Fc b ∧ ¬ D b) (H1 : HInv ⟨w, Fc, μ, fun _ => .no, gl⟩ F1 μ1 h1 w1) (hfl : ∀ p f o, lv h1 p f = some o → o.cs.flat) (hlt : ∀ b, D b → b < w.heap.size) :
    HInv ⟨w, F, μ, fun _ => .no, gl'⟩ (fun b => F1 b ∧ ¬ D b) μ1 h1 w1 := by
  have noO : ∀ {F b} {gl : Glob F w}, ¬ Env.O0 ⟨w, F, μ, fun _ => .no, gl⟩ b := fun ⟨_, _, _, hl, _⟩ => by simp [lv] at hl
  refine ⟨fun k f o hl => ?_, H1.inj, fun k f o b hl hm hb => H1.sep k f o b hl hm hb.1, fun k f o b hl hm => (H1.src k f o b hl hm).imp (fun hO => absurd hO noO) id, fun b hb => H1.fz b hb.1, fun b hb => ?_, ?_, H1.os, H1.tape, H1.output, H1.size,
    fun b h1 h2 => H1.keep b h1 noO⟩
  · rcases H1.ob k f o hl with r | ⟨b, cur, a1, a2, a3⟩
    · exact .inl r
    · refine .inr ⟨b, cur, a1, a2, fun i cells hi => ⟨(a3 i cells hi).1, fun j c hj => ?_⟩⟩
      obtain ⟨u, hu, hr⟩ := (a3 i cells hi).2 j c hj
      exact ⟨u, hu, hr.reF (aflat_get (hfl k f o hl) hi hj)⟩
  · rcases H1.fsrc b hb.1 with hs | hs | hs
    · exact .inl ((hD b hs).resolve_right hb.2)
    · exact absurd hs noO
    · exact .inr (.inr hs)
  · exact ⟨fun b hb => H1.ev.fr b (hF b hb).1, fun b hb => ⟨H1.ev.fs b (hF b hb).1, (hF b hb).2⟩, fun k hk => absurd rfl hk, fun k f o' hk => absurd rfl hk⟩

/-- nothing is used from key B on -/
def Abv (h : Heap) (B : Nat) : Prop := ∀ k, B ≤ k → h k = .no
theorem abv_nil (B : Nat) : Abv (fun _ => .no) B := fun _ _ => rfl
theorem abv_upd {h : Heap} {k B : Nat} {s : Slot} (a : Abv h B) (hk : Nat.blt k B = true) : Abv (upd h k s) B := fun k' hk' => by
  have : k < B := by have := hk; simp [Nat.blt] at this; omega
  rw [upd_ne _ _ (by omega)]; exact a k' hk'
def births (h : Heap) (B : Nat) : List Slot → Heap
  | [] => h
  | s :: ss => births (upd h B s) (B + 1) ss
theorem births_lo (h : Heap) : ∀ (ss : List Slot) (B k : Nat), k < B → births h B ss k = h k := by
  intro ss
  induction ss generalizing h with
  | nil => intro B k _; rfl
  | cons s ss ih => intro B k hk; rw [births, ih _ _ _ (by omega), upd_ne _ _ (by omega)]
theorem births_hi (h : Heap) : ∀ (ss : List Slot) (B p : Nat), Abv h B → births h B ss (B + p) = ss.getD p .no := by
  intro ss
  induction ss generalizing h with
  | nil => intro B p a; simp [births, a (B + p) (by omega)]
  | cons s ss ih =>
    intro B p a
    rw [births]
    cases p with
    | zero => rw [births_lo _ _ _ _ (by omega), Nat.add_zero, upd_same]; rfl
    | succ p =>
      rw [show B + (p + 1) = B + 1 + p by omega, ih _ (B + 1) p (fun k hk => by rw [upd_ne _ _ (by omega)]; exact a k (by omega))]
      simp
theorem lks_map (ι : Nat → Nat) (hs : List Slot) (p : Nat) : (hs.map (Slot.ren ι)).getD p .no = (lks hs p).ren ι := by
  unfold lks
  simp only [List.getD_eq_getElem?_getD, List.getElem?_map]
  cases hs[p]? <;> rfl
/-- a callee that owns nothing of the caller's: its new objects get keys from B on -/
theorem HInv.join0 {gl : Glob F w} (H : HInv E F μ h w) {B : Nat} (hB : Abv h B) {hs : List Slot} (H1 : HInv ⟨w, F, fun p f => μ (B + p) f, lks [], gl⟩ F' μ1 (lks hs) w1) :
    ∃ μ', HInv E F' μ' (births h B (hs.map (Slot.ren (B + ·)))) w1 ∧ Evo w F μ h w1 F' μ' (births h B (hs.map (Slot.ren (B + ·)))) ∧ Ren (B + ·) μ1 (lks hs) μ' (births h B (hs.map (Slot.ren (B + ·)))) := by
  have R1 : Ren (B + ·) μ1 (lks hs) (fun k f => if B ≤ k then μ1 (k - B) f else μ k f) (births h B (hs.map (Slot.ren (B + ·)))) :=
    ⟨fun p => by rw [births_hi _ _ _ _ hB, lks_map], fun p f => by rw [if_pos (by omega)]; congr 1; omega⟩
  refine ⟨fun k f => if B ≤ k then μ1 (k - B) f else μ k f, ?_⟩
  have J := H.join (ι := (B + ·)) (hc := lks []) (fun p q e => by have e : B + p = B + q := e; omega) ⟨fun p => by rw [hB _ (by omega)]; rfl, fun p f => rfl⟩ H1 R1 (fun k hk => ?_)
  · exact ⟨J.1, J.2, R1⟩
  · have : k < B := by
      rcases Nat.lt_or_ge k B with hlt | hge
      · exact hlt
      · exact absurd (show k = B + (k - B) by omega) (hk (k - B))
    exact ⟨births_lo _ _ _ _ this, fun f => by rw [if_neg (by omega)]⟩
end
end Go.Proofs.YtjhadibjjldpdaaGreat
