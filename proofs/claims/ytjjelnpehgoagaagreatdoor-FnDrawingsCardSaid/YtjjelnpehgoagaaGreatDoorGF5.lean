/- Texts of this claim, one behind the other (merged by a program of mine). -/
import Derived.Test.YtjjelnpehgoagaaGreatDoorTie
import Derived.Lib.LaidTab
import Derived.Stop.LaidErr
import Derived.SevenTiedAt
import Derived.Test.YtjjelnpehgoagaaGreatDoorGF4
set_option linter.unusedSimpArgs false
set_option linter.unusedVariables false
namespace Go.Proofs.YtjjelnpehgoagaaGreatDoor
set_option linter.unusedVariables false
set_option maxRecDepth 100000
theorem ba_szD (a b : ByteArray) : (a ++ b).size = a.size + b.size := ByteArray.size_append
theorem foldS_ok {α β : Type} {xs : List α} {f : β → α → β} {step : β × Int → Option ((β × Int) ⊕ β)} (I : Nat → β → Prop) (b0 : β) (h0 : I 0 b0) (hI : ∀ (i : Nat) (hi : i < xs.length) b, I i b → I (i + 1) (f b xs[i])) (hS : ∀ (i : Nat) (hi : i < xs.length) b, I i b → step (b, (i : Int)) = some (.inl (f b xs[i], (i : Int) + 1))) (hE : ∀ b, step (b, (xs.length : Int)) = some (.inr b)) (hn : xs.length ≤ 9223372036854775807) : loopM step (b0, 0) = some (xs.foldl f b0) := by
  refine loopM_eq (fun (s : β × Int) => 0 ≤ s.2 ∧ s.2 ≤ xs.length ∧ s.1 = (xs.take s.2.toNat).foldl f b0 ∧ I s.2.toNat s.1) (fun (s : β × Int) => ((xs.length : Int) - s.2).toNat) (fun s hI' => ?_) (by simpa using h0) (by simp; omega)
  obtain ⟨b, i⟩ := s
  obtain ⟨q0, q1, q2, q3⟩ := hI'
  dsimp only at q0 q1 q2 q3 ⊢
  obtain ⟨j, rfl⟩ : ∃ j : Nat, i = j := ⟨i.toNat, by omega⟩
  have e2 : ((j : Int)).toNat = j := by omega
  rw [e2] at q2 q3
  by_cases hs : j < xs.length
  · left
    have e : ((j : Int) + 1).toNat = j + 1 := by omega
    refine ⟨_, hS j hs b q3, ⟨by dsimp only; omega, by dsimp only; omega, ?_, ?_⟩, by dsimp only; omega⟩
    · dsimp only
      rw [e, q2, List.take_succ_eq_append_getElem hs, List.foldl_append]; rfl
    · dsimp only
      rw [e]; exact hI j hs b q3
  · right
    have : j = xs.length := by omega
    subst this
    rw [hE b, q2, List.take_length]
def spcB : ByteArray := ⟨#[32]⟩
def lineB : ByteArray := ⟨#[108, 105, 110, 101]⟩
def circB : ByteArray := ⟨#[99, 105, 114, 99, 108, 101]⟩
def labB : ByteArray := ⟨#[108, 97, 98, 101, 108]⟩
def atT (a : Spot_) : ByteArray := ((spcB ++ decB a.X) ++ spcB) ++ decB a.Y
def lineT (s : Shape_) : ByteArray := if s.Kind = 1 then (lineB ++ atT s.A) ++ atT s.B else if s.Kind = 2 then ((circB ++ atT s.A) ++ spcB) ++ decB s.R else ((labB ++ atT s.A) ++ spcB) ++ s.Name
def drawT (xs : List Shape_) : ByteArray := xs.foldl (fun a s => a ++ (lineT s ++ nlB)) ⟨#[]⟩
theorem sp_os {s : Spot_} (h : spB s = true) : osI s.X ∧ osI s.Y := by
  unfold spB at h
  rw [Bool.and_eq_true] at h
  have h1 := of_decide_eq_true h.1
  have h2 := of_decide_eq_true h.2
  exact ⟨⟨by omega, by omega⟩, ⟨by omega, by omega⟩⟩
theorem sh_os {s : Shape_} (h : shB s = true) : (osI s.A.X ∧ osI s.A.Y) ∧ (s.Kind = 1 → osI s.B.X ∧ osI s.B.Y) ∧ (s.Kind = 2 → osI s.R) ∧ s.Name.size ≤ 12 := by
  unfold shB at h
  rw [Bool.and_eq_true] at h
  obtain ⟨h1, h2⟩ := h
  refine ⟨sp_os h1, fun hk => ?_, fun hk => ?_, ?_⟩
  · rw [if_pos hk, Bool.and_eq_true] at h2
    exact sp_os h2.1
  · rw [if_neg (by omega), if_pos hk, Bool.and_eq_true, Bool.and_eq_true] at h2
    have := of_decide_eq_true h2.2.1
    exact ⟨by omega, by omega⟩
  · split at h2
    · simp only [Bool.and_eq_true, decide_eq_true_eq] at h2
      rw [h2.2.2]; exact Nat.zero_le _
    · split at h2
      · simp only [Bool.and_eq_true, decide_eq_true_eq] at h2
        rw [h2.2.2]; exact Nat.zero_le _
      · split at h2
        · simp only [Bool.and_eq_true, decide_eq_true_eq] at h2
          have := h2.2.2
          unfold nameB at this
          simp at this
          omega
        · cases h2
theorem atT_size {a : Spot_} (h1 : osI a.X) (h2 : osI a.Y) : (atT a).size ≤ 44 := by
  have z1 := decB_size h1
  have z2 := decB_size h2
  have p1 : spcB.size = 1 := rfl
  unfold atT
  simp only [ba_szD, p1]
  omega
theorem s_l25At_eq {a : Spot_} (h1 : osI a.X) (h2 : osI a.Y) : s_l25At_m a = some (atT a) := by
  have z1 := decB_size h1
  have z2 := decB_size h2
  unfold s_l25At_m
  rw [show (⟨#[32]⟩ : ByteArray) = spcB from rfl, s_l01Dec_eq h1, s_l01Dec_eq h2]
  have p1 : spcB.size = 1 := rfl
  simp only [Option.bind_some, ba_szD, p1]
  rw [chk_t (by omega), chk_t (by omega), chk_t (by omega)]
  rfl
theorem lineT_size {s : Shape_} (h : shB s = true) : (lineT s).size ≤ 200 := by
  obtain ⟨⟨a1, a2⟩, b1, r1, n1⟩ := sh_os h
  have z1 := atT_size a1 a2
  have p1 : spcB.size = 1 := rfl
  have p2 : lineB.size = 4 := rfl
  have p3 : circB.size = 6 := rfl
  have p4 : labB.size = 5 := rfl
  unfold lineT
  split
  · rename_i hk
    have z2 := atT_size (b1 hk).1 (b1 hk).2
    simp only [ba_szD, p2]; omega
  · split
    · rename_i hk
      have z2 := decB_size (r1 hk)
      simp only [ba_szD, p1, p3]; omega
    · simp only [ba_szD, p1, p4]; omega
theorem s_l25Line_eq {s : Shape_} (h : shB s = true) : s_l25Line_m s = some (lineT s) := by
  obtain ⟨⟨a1, a2⟩, b1, r1, n1⟩ := sh_os h
  have z1 := atT_size a1 a2
  have p1 : spcB.size = 1 := rfl
  have p2 : lineB.size = 4 := rfl
  have p3 : circB.size = 6 := rfl
  have p4 : labB.size = 5 := rfl
  unfold s_l25Line_m lineT
  rw [show (⟨#[32]⟩ : ByteArray) = spcB from rfl, show (⟨#[108, 105, 110, 101]⟩ : ByteArray) = lineB from rfl, show (⟨#[99, 105, 114, 99, 108, 101]⟩ : ByteArray) = circB from rfl, show (⟨#[108, 97, 98, 101, 108]⟩ : ByteArray) = labB from rfl, s_l25At_eq a1 a2]
  by_cases h1 : s.Kind = 1
  · have z2 := atT_size (b1 h1).1 (b1 h1).2
    rw [if_pos h1, if_pos h1, s_l25At_eq (b1 h1).1 (b1 h1).2]
    simp only [Option.bind_some, ba_szD, p1, p2]
    rw [chk_t (by omega), chk_t (by omega)]
  · rw [if_neg h1, if_neg h1]
    by_cases h2 : s.Kind = 2
    · have z2 := decB_size (r1 h2)
      rw [if_pos h2, if_pos h2, s_l01Dec_eq (r1 h2)]
      simp only [Option.bind_some, ba_szD, p1, p3]
      rw [chk_t (by omega), chk_t (by omega), chk_t (by omega)]
    · rw [if_neg h2, if_neg h2]
      simp only [Option.bind_some, ba_szD, p1, p4]
      rw [chk_t (by omega), chk_t (by omega), chk_t (by omega)]
theorem i_shapeText_eq {s : Shape_} (h : shB s = true) : i_shapeText_m s = some (lineT s) := by
  obtain ⟨⟨a1, a2⟩, b1, r1, n1⟩ := sh_os h
  have y1 := decB_size a1
  have y2 := decB_size a2
  have p1 : spcB.size = 1 := rfl
  have p2 : (lineB ++ spcB).size = 5 := rfl
  have p3 : (circB ++ spcB).size = 7 := rfl
  have p4 : (labB ++ spcB).size = 6 := rfl
  unfold i_shapeText_m lineT
  rw [show (⟨#[32]⟩ : ByteArray) = spcB from rfl, show (⟨#[108, 105, 110, 101, 32]⟩ : ByteArray) = lineB ++ spcB from rfl, show (⟨#[99, 105, 114, 99, 108, 101, 32]⟩ : ByteArray) = circB ++ spcB from rfl, show (⟨#[108, 97, 98, 101, 108, 32]⟩ : ByteArray) = labB ++ spcB from rfl, i_Decimal_eq a1, i_Decimal_eq a2]
  simp only [Option.bind_some]
  rw [chk_t (by simp only [ba_szD, p1]; omega), chk_t (by simp only [ba_szD, p1]; omega)]
  by_cases h1 : s.Kind = 1
  · have z1 := decB_size (b1 h1).1
    have z2 := decB_size (b1 h1).2
    rw [if_pos h1, if_pos h1, i_Decimal_eq (b1 h1).1, i_Decimal_eq (b1 h1).2]
    simp only [Option.bind_some]
    generalize hq : lineB ++ spcB = q at *
    rw [chk_t (by simp only [ba_szD, p1, p2]; omega), chk_t (by simp only [ba_szD, p1, p2]; omega), chk_t (by simp only [ba_szD, p1, p2]; omega), chk_t (by simp only [ba_szD, p1, p2]; omega), chk_t (by simp only [ba_szD, p1, p2]; omega), ← hq]
    unfold atT
    simp only [ByteArray.append_assoc]
  · rw [if_neg h1, if_neg h1]
    by_cases h2 : s.Kind = 2
    · have z1 := decB_size (r1 h2)
      rw [if_pos h2, if_pos h2, i_Decimal_eq (r1 h2)]
      simp only [Option.bind_some]
      generalize hq : circB ++ spcB = q at *
      rw [chk_t (by simp only [ba_szD, p1, p3]; omega), chk_t (by simp only [ba_szD, p1, p3]; omega), chk_t (by simp only [ba_szD, p1, p3]; omega), ← hq]
      unfold atT
      simp only [ByteArray.append_assoc]
    · rw [if_neg h2, if_neg h2]
      generalize hq : labB ++ spcB = q at *
      rw [chk_t (by simp only [ba_szD, p1, p4]; omega), chk_t (by simp only [ba_szD, p1, p4]; omega), chk_t (by simp only [ba_szD, p1, p4]; omega), ← hq]
      unfold atT
      simp only [ByteArray.append_assoc]
theorem linesM_eq {f : Shape_ → Option ByteArray} (hf : ∀ s, shB s = true → f s = some (lineT s)) : ∀ (xs : List Shape_) (acc : ByteArray), (∀ s ∈ xs, shB s = true) → acc.size + xs.length * 201 ≤ 140737488355328 → linesM f xs acc = some (xs.foldl (fun a s => a ++ (lineT s ++ nlB)) acc)
  | [], acc, _, _ => rfl
  | s :: r, acc, h, hl => by
    have hs := h s (by simp)
    have z := lineT_size hs
    have p : nlB.size = 1 := rfl
    rw [List.length_cons] at hl
    unfold linesM
    rw [hf s hs, Option.bind_some, chk_t (by omega), List.foldl_cons]
    exact linesM_eq hf r _ (fun t ht => h t (by simp [ht])) (by simp only [ba_szD, p]; omega)
theorem dr_all {x : Drawing_} (h : drB x = true) : x.Shapes.length ≤ 1200 ∧ ∀ s ∈ x.Shapes, shB s = true := by
  unfold drB at h
  rw [Bool.and_eq_true] at h
  exact ⟨of_decide_eq_true h.1, List.all_eq_true.1 h.2⟩
def textD (x : Drawing_) : ByteArray := if drB x = true then drawT x.Shapes else ⟨#[]⟩
theorem i_DrawingText_eq (x : Drawing_) : i_DrawingText_m x = some (textD x) := by
  unfold i_DrawingText_m textD
  rw [i_ValidDrawing_eq, Option.bind_some]
  cases h : drB x
  · rfl
  · obtain ⟨h1, h2⟩ := dr_all h
    rw [if_pos rfl, if_pos rfl]
    exact linesM_eq (fun s hs => i_shapeText_eq hs) _ _ h2 (by show 0 + _ ≤ _; omega)
theorem s_l25Text_eq {x : Drawing_} (h : drB x = true) : s_l25Text_m x = some (drawT x.Shapes) := by
  obtain ⟨h1, h2⟩ := dr_all h
  unfold s_l25Text_m
  have p : nlB.size = 1 := rfl
  have := foldS_ok (xs := x.Shapes) (f := fun a s => a ++ (lineT s ++ nlB)) (step := fun s6 => (if s6.2 < (x.Shapes.length : Int) then ((atI x.Shapes s6.2).bind fun v7 => ((s_l25Line_m v7).bind fun v8 => (chk (v8.size + nlB.size ≤ 9223372036854775807) (chk (s6.1.size + (v8 ++ nlB).size ≤ 9223372036854775807) (some (.inl (s6.1 ++ (v8 ++ nlB), w64 (s6.2 + 1)))))))) else some (.inr s6.1))) (fun i b => b.size ≤ 201 * i) ⟨#[]⟩ (Nat.zero_le _) (fun i hi b hb => by
    have z := lineT_size (h2 _ (List.getElem_mem hi))
    simp only [ba_szD, p]; omega) (fun i hi b hb => by
    have hs := h2 _ (List.getElem_mem hi)
    have z := lineT_size hs
    have hi' : (i : Int) < (x.Shapes.length : Int) := by omega
    have e1 : w64 ((i : Int) + 1) = (i : Int) + 1 := w64_in (by omega) (by omega)
    simp only [if_pos hi', atI_lt hi, Option.bind_some, s_l25Line_eq hs]
    rw [chk_t (by rw [p]; omega), chk_t (by simp only [ba_szD, p]; omega), e1]) (fun b => by simp) (by omega)
  rw [show (⟨#[10]⟩ : ByteArray) = nlB from rfl, this]; rfl
theorem s_DrawingText_eq {x : Drawing_} (hl : x.Shapes.length ≤ 9223372036854775807) : s_DrawingText_m x = some (textD x) := by
  unfold s_DrawingText_m textD
  rw [s_l25Ok_eq hl, Option.bind_some]
  cases h : drB x
  · rfl
  · rw [s_l25Text_eq h]; rfl
end Go.Proofs.YtjjelnpehgoagaaGreatDoor
namespace Go.Proofs.YtjjelnpehgoagaaGreatDoor
set_option linter.unusedVariables false
set_option maxRecDepth 100000
abbrev tl (s : ByteArray) : List UInt8 := s.data.toList
def ba (l : List UInt8) : ByteArray := ⟨l.toArray⟩
theorem tl_ba (l : List UInt8) : tl (ba l) = l := rfl
theorem ba_tl (s : ByteArray) : ba (tl s) = s := rfl
theorem tl_inj {a b : ByteArray} (h : tl a = tl b) : a = b := by rw [← ba_tl a, ← ba_tl b, h]
theorem ba_size (l : List UInt8) : (ba l).size = l.length := by simp [ba, ByteArray.size]
theorem tl_len (s : ByteArray) : (tl s).length = s.size := by show s.data.toList.length = s.data.size; rw [Array.length_toList]
theorem tl_app (a b : ByteArray) : tl (a ++ b) = tl a ++ tl b := by show (a ++ b).data.toList = _; rw [ByteArray.data_append, Array.toList_append]
theorem tl_ext (s : ByteArray) (i j : Nat) : tl (s.extract i j) = ((tl s).take j).drop i := by
  simp [tl, ByteArray.data_extract, Array.toList_extract, List.extract_eq_take_drop]
  try rw [List.drop_take]
theorem strAt_l (s : ByteArray) (i : Nat) : strAt s (i : Int) = ((tl s)[i]?).map fun b => (b.toNat : Int) := by
  rw [strAt_bytes, atI_nat]
  simp [bytesL, tl]
theorem dig1 (d : Nat) (h : d < 10) : (UInt8.ofNat (48 + d)).toNat = 48 + d := by
  simp [UInt8.toNat_ofNat']; omega
theorem dec_digits : ∀ (u : Nat), ∀ b ∈ Lib.decDigits u, 48 ≤ b.toNat ∧ b.toNat ≤ 57 := by
  intro u
  induction u using Nat.strongRecOn with
  | _ u ih =>
    intro b hb
    rw [Lib.decDigits] at hb
    by_cases h1 : u < 10
    · rw [dif_pos h1, List.mem_singleton] at hb
      subst hb
      rw [dig1 u h1]; omega
    · rw [dif_neg h1, List.mem_append, List.mem_singleton] at hb
      rcases hb with hb | rfl
      · exact ih (u / 10) (by omega) b hb
      · rw [dig1 _ (by omega)]; omega
def valL (a : Nat) (l : List UInt8) : Nat := l.foldl (fun a b => a * 10 + (b.toNat - 48)) a
theorem valL_app (a : Nat) (l m : List UInt8) : valL a (l ++ m) = valL (valL a l) m := by simp [valL]
theorem valL_dec : ∀ (u : Nat), valL 0 (Lib.decDigits u) = u := by
  intro u
  induction u using Nat.strongRecOn with
  | _ u ih =>
    rw [Lib.decDigits]
    by_cases h1 : u < 10
    · rw [dif_pos h1]
      simp only [valL, List.foldl_cons, List.foldl_nil, dig1 u h1]; omega
    · rw [dif_neg h1, valL_app, ih (u / 10) (by omega)]
      simp only [valL, List.foldl_cons, List.foldl_nil, dig1 (u % 10) (by omega)]; omega
theorem valL_ge : ∀ (l : List UInt8) (a : Nat), a ≤ valL a l
  | [], a => Nat.le_refl _
  | b :: l, a => by
    have := valL_ge l (a * 10 + (b.toNat - 48))
    have e : valL a (b :: l) = valL (a * 10 + (b.toNat - 48)) l := rfl
    omega
theorem dec_len {u : Nat} (h : u < 1000000000000000000) : 1 ≤ (Lib.decDigits u).length ∧ (Lib.decDigits u).length ≤ 18 := by
  by_cases h0 : u = 0
  · subst h0; rw [Lib.decDigits]; simp
  · have e := congrArg List.length (dgs_dec u h0)
    have l := dgs_len 18 u (by omega)
    have p : (dgs u).length ≠ 0 := by rw [dgs_pos h0]; simp
    have e2 : (strOfNums (dgs u)).data.toList.length = (dgs u).length := by simp [strOfNums]
    omega
theorem parse_val {M : Nat} (hM : 18446744073709551615 ≤ M) : ∀ (l : List UInt8) (a : Nat), (∀ b ∈ l, 48 ≤ b.toNat ∧ b.toNat ≤ 57) → valL a l < 1844674407370955162 → Lib.parseUintM M a l = .ok (valL a l)
  | [], a, _, _ => rfl
  | b :: l, a, h, hv => by
    have hb := h b (by simp)
    have e : valL a (b :: l) = valL (a * 10 + (b.toNat - 48)) l := rfl
    have g := valL_ge l (a * 10 + (b.toNat - 48))
    rw [Lib.parseUintM, if_pos hb, if_neg (by omega), if_neg (by omega), parse_val hM l _ (fun c hc => h c (by simp [hc])) (by omega), e]
theorem decB_nat {n : Int} (h0 : 0 ≤ n) : tl (decB n) = Lib.decDigits n.toNat := by
  show (Lib.itoa n) = _
  rw [Lib.itoa, if_neg (by omega)]
theorem readD_dec {n : Int} (h0 : 0 ≤ n) (h1 : n < 1000000000000000000) : readD (decB n) = (n, true) := by
  have e := decB_nat h0
  have hl := dec_len (u := n.toNat) (by omega)
  have hd := dec_digits n.toNat
  have hv := valL_dec n.toNat
  obtain ⟨c, r, hcr⟩ : ∃ c r, Lib.decDigits n.toNat = c :: r := by
    cases h : Lib.decDigits n.toNat with
    | nil => rw [h] at hl; simp at hl
    | cons c r => exact ⟨c, r, rfl⟩
  have hc := hd c (by rw [hcr]; simp)
  have e1 : digitsOf (decB n) = decB n := by
    unfold digitsOf
    rw [show (decB n).data.toList = Lib.decDigits n.toNat from e, Lib.trimPrefix, if_neg ?_]
    · exact tl_inj e.symm
    · rw [hcr]
      intro hp
      have : c.toNat = 45 := by
        have hp : Lib.hasPrefix (c :: r) [45] = true := hp
        simp [Lib.hasPrefix] at hp
        first | (rw [hp]; rfl) | (rw [← hp]; rfl)
      omega
  have hs : (decB n).size = (Lib.decDigits n.toNat).length := by rw [← tl_len, e]
  have hp : Lib.parseIntB 64 (decB n).data.toList = .ok n := by
    rw [show (decB n).data.toList = Lib.decDigits n.toNat from e]
    unfold Lib.parseIntB
    rw [hcr]
    simp only
    rw [if_neg (by omega), ← hcr]
    unfold Lib.parseUintB
    rw [if_neg (by rw [hcr]; simp), parse_val (by decide) _ _ hd (by rw [hv]; omega), hv]
    simp only
    rw [if_neg (by omega), if_neg (by omega), if_neg (by omega)]
    congr 1; omega
  unfold readD
  rw [e1, if_neg (by omega), hp]
  simp only
  exact if_pos rfl
theorem idx_app {c : UInt8} : ∀ (a b : List UInt8), c ∉ a → Lib.indexByte (a ++ c :: b) c = a.length
  | [], b, _ => by simp [Lib.indexByte]
  | x :: a, b, h => by
    have hx : (x == c) = false := by simp at h ⊢; exact fun e => h.1 e.symm
    have ih := idx_app a b (fun hc => h (List.mem_cons_of_mem _ hc))
    have hne : ((a.length : Int) == -1) = false := by simp
    simp only [List.cons_append, Lib.indexByte, hx, ih, hne, Bool.false_eq_true, if_false, List.length_cons]
    omega
def splitL (c : UInt8) : List UInt8 → List (List UInt8)
  | [] => [[]]
  | b :: l => if b = c then [] :: splitL c l else (b :: (splitL c l).headD []) :: (splitL c l).tail
theorem splitL_ne (c : UInt8) : ∀ l, splitL c l ≠ []
  | [] => by simp [splitL]
  | b :: l => by unfold splitL; split <;> simp
theorem splitL_none {c : UInt8} : ∀ {l : List UInt8}, c ∉ l → splitL c l = [l]
  | [], _ => rfl
  | b :: l, h => by
    have ih := splitL_none (l := l) (fun hc => h (List.mem_cons_of_mem _ hc))
    have hb : b ≠ c := fun e => h (by simp [e])
    unfold splitL
    rw [if_neg hb, ih]; rfl
theorem splitL_app {c : UInt8} : ∀ {a b : List UInt8}, c ∉ a → splitL c (a ++ c :: b) = a :: splitL c b
  | [], b, _ => by simp [splitL]
  | x :: a, b, h => by
    have ih := splitL_app (a := a) (b := b) (fun hc => h (List.mem_cons_of_mem _ hc))
    have hb : x ≠ c := fun e => h (by simp [e])
    rw [List.cons_append, splitL, if_neg hb, ih]; rfl
def glue (out : List (List UInt8)) (pend : List UInt8) (rest : List (List UInt8)) : List (List UInt8) := out ++ (pend ++ rest.headD []) :: rest.tail
theorem s_l01Split_eq {p : ByteArray} {c : UInt8} (hp : p.size ≤ 1048576) : s_l01Split_m p (c.toNat : Int) = some ((splitL c (tl p)).map ba) := by
  unfold s_l01Split_m
  have hl := tl_len p
  refine Exists.elim (loopM_of (S := Int × Int × List ByteArray) (X := Int × List ByteArray) (step := fun s6 => (if s6.2.1 < (p.size : Int) then
      ((((strAt p s6.2.1).bind fun v7 => (if v7 = (c.toNat : Int) then (chk (0 ≤ s6.1 ∧ s6.1 ≤ s6.2.1 ∧ s6.2.1 ≤ (p.size : Int)) (chk ((s6.2.2.length + [p.extract s6.1.toNat s6.2.1.toNat].length) * 1 * 64 ≤ 140737488355328) (some (w64 (s6.2.1 + 1), s6.2.2 ++ [p.extract s6.1.toNat s6.2.1.toNat])))) else some (s6.1, s6.2.2))) : Option (Int × List ByteArray)).bind fun v10 =>
        some (.inl (v10.1, w64 (s6.2.1 + 1), v10.2))) else some (.inr (s6.1, s6.2.2))))
    (fun (s : Int × Int × List ByteArray) => ∃ (f i : Nat) (out : List (List UInt8)), s = ((f : Int), (i : Int), out.map ba) ∧ f ≤ i ∧ i ≤ p.size ∧ out.length ≤ i ∧ glue out (((tl p).take i).drop f) (splitL c ((tl p).drop i)) = splitL c (tl p))
    (fun s => ((p.size : Int) - s.2.1).toNat)
    (fun x => ∃ (f : Nat) (out : List (List UInt8)), x = ((f : Int), out.map ba) ∧ f ≤ p.size ∧ out.length ≤ p.size ∧ out ++ [(tl p).drop f] = splitL c (tl p)) (fun s hI => ?_) (0, 0, []) ⟨0, 0, [], rfl, Nat.le_refl _, Nat.zero_le _, Nat.zero_le _, ?_⟩ (by dsimp only; omega)) (fun x hxP => ?_)
  · obtain ⟨f, i, out, rfl, h1, h2, h3, h4⟩ := hI
    dsimp only
    by_cases hi : i < p.size
    · left
      have hit : i < (tl p).length := by omega
      have hs : strAt p (i : Int) = some (((tl p)[i].toNat : Nat) : Int) := by rw [strAt_l, List.getElem?_eq_getElem hit]; rfl
      have hd : (tl p).drop i = (tl p)[i] :: (tl p).drop (i + 1) := List.drop_eq_getElem_cons hit
      have ht : (tl p).take (i + 1) = (tl p).take i ++ [(tl p)[i]] := List.take_succ_eq_append_getElem hit
      rw [if_pos (by omega), hs, Option.bind_some, w64_in (by omega) (by omega)]
      rw [hd] at h4
      by_cases hb : (tl p)[i] = c
      · rw [if_pos (by rw [hb]), chk_t (by omega), chk_t (by simp; omega)]
        refine ⟨_, rfl, ⟨i + 1, i + 1, out ++ [((tl p).take i).drop f], ?_, Nat.le_refl _, by omega, by simp; omega, ?_⟩, by dsimp only; omega⟩
        · dsimp only
          refine Prod.ext (by push_cast; rfl) (Prod.ext (by push_cast; rfl) ?_)
          dsimp only
          rw [List.map_append]
          congr 1
          simp only [List.map_cons, List.map_nil]
          congr 1
          exact tl_inj (by rw [tl_ext, tl_ba]; simp)
        · rw [← h4, splitL, if_pos hb, ht]
          simp only [glue]
          have e0 : ((tl p).take i ++ [(tl p)[i]]).drop (i + 1) = [] := List.drop_eq_nil_of_le (by simp; omega)
          rw [e0]
          cases hq : splitL c ((tl p).drop (i + 1)) with
          | nil => exact absurd hq (splitL_ne _ _)
          | cons y ys => simp
      · have hbn : ¬ (((tl p)[i].toNat : Nat) : Int) = ((c.toNat : Nat) : Int) := fun e => hb (UInt8.toNat_inj.1 (by omega))
        rw [if_neg hbn]
        refine ⟨_, rfl, ⟨f, i + 1, out, ?_, by omega, by omega, by omega, ?_⟩, by dsimp only; omega⟩
        · exact Prod.ext rfl (Prod.ext (by push_cast; rfl) rfl)
        · rw [← h4, splitL, if_neg hb, ht]
          simp only [glue]
          rw [List.drop_append_of_le_length (by simp; omega)]
          simp
    · right
      have : i = p.size := by omega
      subst this
      rw [if_neg (by omega)]
      refine ⟨_, rfl, f, out, rfl, h1, h3, ?_⟩
      have e1 : (tl p).drop p.size = [] := List.drop_of_length_le (by omega)
      rw [← h4, e1, List.take_of_length_le (by omega)]
      simp [glue, splitL]
  · simp [glue]
    cases hq : splitL c (tl p) with
    | nil => exact absurd hq (splitL_ne _ _)
    | cons y ys => simp
  · obtain ⟨hx, hP⟩ := hxP
    rw [hx, Option.bind_some]
    obtain ⟨f, out, rfl, h1, h2, h3⟩ := hP
    dsimp only
    rw [chk_t (by omega), chk_t (by simp; omega), ← h3]
    congr 1
    rw [List.map_append]
    congr 1
    simp only [List.map_cons, List.map_nil]
    congr 1
    exact tl_inj (by rw [tl_ext, tl_ba, List.take_of_length_le (by omega)]; simp)
end Go.Proofs.YtjjelnpehgoagaaGreatDoor
namespace Go.Proofs.YtjjelnpehgoagaaGreatDoor
set_option linter.unusedVariables false
set_option maxRecDepth 100000
theorem s_digit (b : Int) : s_l01Digit_m b = some (decide (48 ≤ b ∧ b ≤ 57)) := by
  unfold s_l01Digit_m
  by_cases h : 48 ≤ b <;> simp [h]
theorem u8sub {b : Nat} (h0 : 48 ≤ b) (h1 : b ≤ 57) : w64 (IntKind.u8.wrap ((b : Int) - 48)) = (b : Int) - 48 := by
  have e : IntKind.u8.wrap ((b : Int) - 48) = (b : Int) - 48 := by
    unfold IntKind.wrap
    simp [IntKind.signed, IntKind.bits]
    omega
  rw [e, w64_in (by omega) (by omega)]
theorem num_loop {l : List UInt8} (hl : l.length ≤ 18) {step : Int × Int → Option ((Int × Int) ⊕ (Int ⊕ (Int × Bool)))}
    (hS : ∀ (n : Int) (i : Nat) (b : UInt8), l[i]? = some b → 0 ≤ n → n < 1000000000000000000 → step (n, (i : Int)) = if 48 ≤ b.toNat ∧ b.toNat ≤ 57 then some (.inl (w64 (w64 (10 * n) + ((b.toNat : Int) - 48)), w64 ((i : Int) + 1))) else some (.inr (.inr (0, false))))
    (hE : ∀ n, step (n, (l.length : Int)) = some (.inr (.inl n))) :
    ∃ x, loopM step (0, 0) = some x ∧ ((x = .inr (0, false)) ∨ ∃ n, x = .inl n ∧ 0 ≤ n ∧ n < 1000000000000000000 ∧ n = (valL 0 l : Int)) ∧ ((∀ b ∈ l, 48 ≤ b.toNat ∧ b.toNat ≤ 57) → x = .inl (valL 0 l : Int)) := by
  have pw : ∀ i : Nat, i ≤ 18 → (10 : Int) ^ i ≤ 1000000000000000000 := fun i hi => by
    have : (10 : Nat) ^ i ≤ 10 ^ 18 := Nat.pow_le_pow_right (by omega) hi
    have h2 : ((10 ^ i : Nat) : Int) ≤ ((10 ^ 18 : Nat) : Int) := by omega
    simpa using h2
  refine loopM_of (fun (s : Int × Int) => ∃ i : Nat, i ≤ l.length ∧ s = ((valL 0 (l.take i) : Int), (i : Int)) ∧ (valL 0 (l.take i) : Int) < 10 ^ i) (fun s => ((l.length : Int) - s.2).toNat) _ (fun s hI => ?_) (0, 0) ⟨0, Nat.zero_le _, rfl, by simp [valL]⟩ (by dsimp only; omega)
  obtain ⟨i, hi, rfl, hv⟩ := hI
  have hp := pw i (by omega)
  by_cases hlt : i < l.length
  · have hb : l[i]? = some l[i] := List.getElem?_eq_getElem hlt
    rw [hS _ i l[i] hb (by omega) (by omega)]
    by_cases hd : 48 ≤ l[i].toNat ∧ l[i].toNat ≤ 57
    · left
      have ht : l.take (i + 1) = l.take i ++ [l[i]] := by rw [List.take_add_one, hb]; rfl
      have hval : valL 0 (l.take (i + 1)) = valL 0 (l.take i) * 10 + (l[i].toNat - 48) := by rw [ht, valL_app]; rfl
      have hp2 := pw (i + 1) (by omega)
      have hps : (10 : Int) ^ (i + 1) = 10 * 10 ^ i := by rw [Int.pow_succ]; omega
      rw [if_pos hd, w64_in (x := 10 * _) (by omega) (by omega), w64_in (by omega) (by omega), w64_in (by omega) (by omega)]
      refine ⟨_, rfl, ⟨i + 1, by omega, ?_, ?_⟩, by dsimp only; omega⟩
      · rw [hval]
        refine Prod.ext ?_ (by push_cast; rfl)
        dsimp only
        omega
      · rw [hval, hps]
        omega
    · right
      rw [if_neg hd]
      exact ⟨_, rfl, .inl rfl, fun hall => absurd (hall _ (List.getElem_mem hlt)) hd⟩
  · right
    have : i = l.length := by omega
    subst this
    rw [hE]
    rw [List.take_length] at hv ⊢
    exact ⟨_, rfl, .inr ⟨_, rfl, by omega, by omega, rfl⟩, fun _ => rfl⟩
theorem s_l01Number_ok {p : ByteArray} (hp : p.size ≤ 1048576) : (∃ r, s_l01Number_m p = some r ∧ (r.2 = true → decB r.1 = p ∧ osI r.1)) ∧ ∀ n : Int, 0 ≤ n → n < 1000000000000000000 → p = decB n → s_l01Number_m p = some (n, true) := by
  unfold s_l01Number_m
  -- the text behind the sign
  obtain ⟨t, ht, hts, htd⟩ : ∃ t : ByteArray, ((((if p ≠ (⟨#[]⟩ : ByteArray) then ((strAt p 0).bind fun v1 => some (decide (v1 = 45))) else some false) : Option Bool).bind fun v2 =>
      (if v2 = true then (chk (0 ≤ (1 : Int) ∧ (1 : Int) ≤ (p.size : Int) ∧ (p.size : Int) ≤ (p.size : Int)) (some (p.extract (1 : Int).toNat (p.size : Int).toNat))) else some p)) : Option ByteArray) = some t ∧ t.size ≤ p.size ∧ ((∀ b ∈ tl p, 48 ≤ b.toNat ∧ b.toNat ≤ 57) → t = p) := by
    by_cases he : p = ⟨#[]⟩
    · exact ⟨p, by simp [he], Nat.le_refl _, fun _ => rfl⟩
    · have hpos : 0 < p.size := by
        rcases Nat.eq_zero_or_pos p.size with h | h
        · exact absurd (tl_inj (List.eq_nil_of_length_eq_zero (by rw [tl_len, h]))) he
        · exact h
      have hl := tl_len p
      have h0 : strAt p 0 = some (((tl p)[0].toNat : Nat) : Int) := by
        have := strAt_l p 0
        rw [List.getElem?_eq_getElem (by omega)] at this
        exact this
      rw [if_pos he, h0]
      simp only [Option.bind_some]
      by_cases hm : (((tl p)[0].toNat : Nat) : Int) = 45
      · refine ⟨p.extract (1 : Int).toNat (p.size : Int).toNat, ?_, ?_, fun hall => ?_⟩
        · simp only [hm, decide_true, if_true]
          rw [chk_t (by omega)]
        · rw [← tl_len, tl_ext, ← tl_len]; simp
        · have := hall _ (List.getElem_mem (show 0 < (tl p).length by omega)); omega
      · exact ⟨p, by rw [decide_eq_false hm, if_neg (by decide)], Nat.le_refl _, fun _ => rfl⟩
  rw [ht, Option.bind_some]
  have hl := tl_len t
  by_cases hz : (t.size : Int) < 1 ∨ 18 < (t.size : Int)
  · have e : ((if (t.size : Int) < 1 then some true else some (decide (18 < (t.size : Int)))) : Option Bool) = some true := by
      rcases hz with h | h
      · rw [if_pos h]
      · split
        · rfl
        · rw [decide_eq_true h]
    rw [e, Option.bind_some, if_pos rfl]
    refine ⟨⟨_, rfl, fun h => by cases h⟩, fun n h0 h1 hpn => ?_⟩
    exfalso
    have e2 := decB_nat h0
    have hd := dec_digits n.toNat
    have hln := dec_len (u := n.toNat) (by omega)
    have htp := htd (by rw [hpn, e2]; exact hd)
    rw [htp, ← tl_len, hpn, e2] at hz
    omega
  · have e : ((if (t.size : Int) < 1 then some true else some (decide (18 < (t.size : Int)))) : Option Bool) = some false := by
      rw [if_neg (fun h => hz (.inl h)), decide_eq_false (fun h => hz (.inr h))]
    rw [e, Option.bind_some, if_neg (by decide)]
    obtain ⟨x, hx, hx1, hx2⟩ := num_loop (l := tl t) (by omega) (step := fun s10 => (if s10.2 < (t.size : Int) then ((strAt t s10.2).bind fun v11 => ((s_l01Digit_m v11).bind fun v12 => (if (!v12) = true then some (.inr (.inr (0, false))) else ((strAt t s10.2).bind fun v13 => some (.inl (w64 ((w64 (10 * s10.1)) + (w64 (IntKind.u8.wrap (v13 - 48)))), w64 (s10.2 + 1))))))) else some (.inr (.inl s10.1)))) (fun n i b hb h0 h1 => by
        have hi : i < (tl t).length := (List.getElem?_eq_some_iff.1 hb).1
        have hs : strAt t (i : Int) = some ((b.toNat : Nat) : Int) := by rw [strAt_l, hb]; rfl
        simp only [if_pos (show (i : Int) < (t.size : Int) by omega), hs, Option.bind_some, s_digit]
        by_cases hd : 48 ≤ b.toNat ∧ b.toNat ≤ 57
        · rw [if_pos hd, decide_eq_true (show 48 ≤ ((b.toNat : Nat) : Int) ∧ ((b.toNat : Nat) : Int) ≤ 57 by omega), u8sub hd.1 hd.2]; rfl
        · rw [if_neg hd, decide_eq_false (show ¬ (48 ≤ ((b.toNat : Nat) : Int) ∧ ((b.toNat : Nat) : Int) ≤ 57) by omega)]; rfl) (fun n => by simp only [if_neg (show ¬ ((tl t).length : Int) < (t.size : Int) by omega)])
    rw [hx, Option.bind_some]
    refine ⟨?_, fun n h0 h1 hpn => ?_⟩
    · rcases hx1 with rfl | ⟨v, rfl, v0, v1, _⟩
      · exact ⟨(0, false), rfl, fun h => by cases h⟩
      · simp only [orE_l]
        obtain ⟨m, hm, hmo⟩ : ∃ m, ((if (t.size : Int) < (p.size : Int) then some (w64 (-v)) else some v) : Option Int) = some m ∧ osI m := by
          split
          · exact ⟨_, rfl, by rw [w64_in (by omega) (by omega)]; exact ⟨by omega, by omega⟩⟩
          · exact ⟨_, rfl, by omega, by omega⟩
        rw [hm, Option.bind_some, s_l01Dec_eq hmo, Option.bind_some]
        by_cases hq : decB m = p
        · rw [if_neg (by simp [hq])]
          exact ⟨_, rfl, fun _ => ⟨hq, hmo⟩⟩
        · rw [if_pos hq]
          exact ⟨_, rfl, fun h => by cases h⟩
    · have e2 := decB_nat h0
      have hd := dec_digits n.toNat
      have htp := htd (by rw [hpn, e2]; exact hd)
      have hv := hx2 (by rw [htp, hpn, e2]; exact hd)
      rw [htp, hpn, e2, valL_dec] at hv
      subst hv
      simp only [orE_l]
      rw [if_neg (by rw [htp]; omega), Option.bind_some, show ((n.toNat : Nat) : Int) = n by omega, s_l01Dec_eq ⟨by omega, by omega⟩, Option.bind_some, if_neg (by simp [hpn])]
theorem decB_neg {m : Nat} (h : 0 < m) : tl (decB (-(m : Int))) = 45 :: Lib.decDigits m := by
  show Lib.itoa _ = _
  rw [Lib.itoa, if_pos (by omega)]
  congr 2
  omega
theorem readD_neg {m : Nat} (h0 : 0 < m) (h1 : m < 1000000000000000000) : readD (decB (-(m : Int))) = (-(m : Int), true) := by
  have e := decB_neg h0
  have hl := dec_len h1
  have hd := dec_digits m
  have hv := valL_dec m
  have e1 : digitsOf (decB (-(m : Int))) = ba (Lib.decDigits m) := by
    unfold digitsOf
    rw [show (decB (-(m : Int))).data.toList = 45 :: Lib.decDigits m from e, Lib.trimPrefix, if_pos (by simp [Lib.hasPrefix, minusB])]
    rfl
  have hs : (ba (Lib.decDigits m)).size = (Lib.decDigits m).length := ba_size _
  have hp : Lib.parseIntB 64 (decB (-(m : Int))).data.toList = .ok (-(m : Int)) := by
    rw [show (decB (-(m : Int))).data.toList = 45 :: Lib.decDigits m from e]
    unfold Lib.parseIntB
    simp only
    rw [if_pos (by decide)]
    unfold Lib.parseUintB
    rw [if_neg (by intro h; rw [h] at hl; simp at hl), parse_val (by decide) _ _ hd (by rw [hv]; omega), hv]
    simp only
    rw [if_neg (by simp), if_neg (by simp; omega), if_pos (by decide)]
  unfold readD
  rw [e1, if_neg (by omega), hp]
  simp only
  exact if_pos rfl
theorem s_l01Number_neg {m : Nat} (h0 : 0 < m) (h1 : m < 1000000000000000000) : s_l01Number_m (decB (-(m : Int))) = some (-(m : Int), true) := by
  have e := decB_neg h0
  have hl := dec_len h1
  have hd := dec_digits m
  have hv := valL_dec m
  generalize hp : decB (-(m : Int)) = p at *
  have hsz : p.size = (Lib.decDigits m).length + 1 := by rw [← tl_len, e]; rfl
  have hne : p ≠ ⟨#[]⟩ := by intro h; have : (⟨#[]⟩ : ByteArray).size = 0 := rfl; rw [h] at hsz; omega
  have hat : strAt p 0 = some 45 := by
    have := strAt_l p 0
    rw [e] at this
    exact this
  have hex : p.extract (1 : Int).toNat (p.size : Int).toNat = ba (Lib.decDigits m) := by
    refine tl_inj ?_
    rw [tl_ext, e]
    simp [hsz, tl_ba]
  unfold s_l01Number_m
  rw [if_pos hne, hat]
  simp only [Option.bind_some, decide_true, if_true]
  rw [chk_t (by omega), Option.bind_some, hex]
  generalize ht : ba (Lib.decDigits m) = t
  have htl : tl t = Lib.decDigits m := by rw [← ht]; rfl
  have hts : t.size = (Lib.decDigits m).length := by rw [← tl_len, htl]
  rw [if_neg (by omega), decide_eq_false (by omega), Option.bind_some, if_neg (by decide)]
  have hl2 := tl_len t
  obtain ⟨x, hx, hx1, hx2⟩ := num_loop (l := tl t) (by omega) (step := fun s10 => (if s10.2 < (t.size : Int) then ((strAt t s10.2).bind fun v11 => ((s_l01Digit_m v11).bind fun v12 => (if (!v12) = true then some (.inr (.inr (0, false))) else ((strAt t s10.2).bind fun v13 => some (.inl (w64 ((w64 (10 * s10.1)) + (w64 (IntKind.u8.wrap (v13 - 48)))), w64 (s10.2 + 1))))))) else some (.inr (.inl s10.1)))) (fun n i b hb h0 h1 => by
        have hi : i < (tl t).length := (List.getElem?_eq_some_iff.1 hb).1
        have hs : strAt t (i : Int) = some ((b.toNat : Nat) : Int) := by rw [strAt_l, hb]; rfl
        simp only [if_pos (show (i : Int) < (t.size : Int) by omega), hs, Option.bind_some, s_digit]
        by_cases hd : 48 ≤ b.toNat ∧ b.toNat ≤ 57
        · rw [if_pos hd, decide_eq_true (show 48 ≤ ((b.toNat : Nat) : Int) ∧ ((b.toNat : Nat) : Int) ≤ 57 by omega), u8sub hd.1 hd.2]; rfl
        · rw [if_neg hd, decide_eq_false (show ¬ (48 ≤ ((b.toNat : Nat) : Int) ∧ ((b.toNat : Nat) : Int) ≤ 57) by omega)]; rfl) (fun n => by simp only [if_neg (show ¬ ((tl t).length : Int) < (t.size : Int) by omega)])
  rw [hx, Option.bind_some]
  have hv2 := hx2 (by rw [htl]; exact hd)
  rw [htl, hv] at hv2
  subst hv2
  simp only [orE_l]
  rw [if_pos (by omega), Option.bind_some, w64_in (by omega) (by omega), s_l01Dec_eq ⟨by omega, by omega⟩, Option.bind_some, hp, if_neg (fun h => h rfl)]
theorem s_number {n : Int} (h0 : -1000000 ≤ n) (h1 : n ≤ 1000000) : s_l01Number_m (decB n) = some (n, true) := by
  rcases Int.lt_or_le n 0 with h | h
  · obtain ⟨m, rfl⟩ : ∃ m : Nat, n = -(m : Int) := ⟨n.natAbs, by omega⟩
    exact s_l01Number_neg (by omega) (by omega)
  · have hz := decB_size (n := n) ⟨by omega, by omega⟩
    exact (s_l01Number_ok (p := decB n) (by omega)).2 n h (by omega) rfl
theorem r_number {n : Int} (h0 : -1000000 ≤ n) (h1 : n ≤ 1000000) : readD (decB n) = (n, true) := by
  rcases Int.lt_or_le n 0 with h | h
  · obtain ⟨m, rfl⟩ : ∃ m : Nat, n = -(m : Int) := ⟨n.natAbs, by omega⟩
    exact readD_neg (by omega) (by omega)
  · exact readD_dec h (by omega)
theorem dec_bytes (n : Int) : ∀ b ∈ tl (decB n), b.toNat = 45 ∨ 48 ≤ b.toNat ∧ b.toNat ≤ 57 := by
  intro b hb
  rcases Int.lt_or_le n 0 with h | h
  · obtain ⟨m, rfl⟩ : ∃ m : Nat, n = -(m : Int) := ⟨n.natAbs, by omega⟩
    rw [decB_neg (by omega)] at hb
    rcases List.mem_cons.1 hb with rfl | hb
    · exact .inl rfl
    · exact .inr (dec_digits m b hb)
  · rw [decB_nat h] at hb
    exact .inr (dec_digits _ b hb)
theorem i_ReadDecimal_eq {p : ByteArray} (hp : p.size ≤ 1048576) : i_ReadDecimal_m p = some (readD p) := by
  unfold i_ReadDecimal_m
  rw [chk_t (by omega)]
end Go.Proofs.YtjjelnpehgoagaaGreatDoor
namespace Go.Proofs.YtjjelnpehgoagaaGreatDoor
set_option linter.unusedVariables false
set_option maxRecDepth 100000
theorem index_eq (s : ByteArray) (c : UInt8) : strings_Index_m s ⟨#[c]⟩ = some (Lib.indexByte (tl s) c) := by
  unfold strings_Index_m internal_stringslite_Index_m
  rw [chk_t (show (⟨#[c]⟩ : ByteArray).size = 1 from rfl)]; rfl
theorem split_loop {p : ByteArray} {c : UInt8} {n : Nat} (hn : n = (tl p).count c + 1) (hp : p.size ≤ 1048576) : ∃ x, loopM (S := ByteArray × Int × List ByteArray) (X := ByteArray × Int × List ByteArray) (fun s9 =>
    (if s9.2.1 < (n : Int) - 1 then
    ((strings_Index_m s9.1 ⟨#[c]⟩).bind fun v10 =>
    (if v10 < 0 then
    some (.inr (s9.1, s9.2.1, s9.2.2))
    else
    (chk (0 ≤ (0 : Int) ∧ (0 : Int) ≤ (w64 (v10 + 0)) ∧ (w64 (v10 + 0)) ≤ (s9.1.size : Int)) (
    ((atI s9.2.2 s9.2.1).bind fun v12 =>
    (chk (0 ≤ (w64 (v10 + 1)) ∧ (w64 (v10 + 1)) ≤ (s9.1.size : Int) ∧ (s9.1.size : Int) ≤ (s9.1.size : Int)) (
    some (.inl (s9.1.extract (w64 (v10 + 1)).toNat (s9.1.size : Int).toNat, w64 (s9.2.1 + 1), List.set s9.2.2 s9.2.1.toNat (s9.1.extract (0 : Int).toNat (w64 (v10 + 0)).toNat))))))))))
    else
    some (.inr (s9.1, s9.2.1, s9.2.2)))) (p, 0, List.replicate n (⟨#[]⟩ : ByteArray)) = some x ∧ x.2.1 = (n : Int) - 1 ∧ ∃ out : List (List UInt8), out.length + 1 = n ∧ splitL c (tl p) = out ++ [tl x.1] ∧ x.2.2 = out.map ba ++ [⟨#[]⟩] := by
  have hcl := List.count_le_length (a := c) (l := tl p)
  have hpl := tl_len p
  refine loopM_of (fun (s : ByteArray × Int × List ByteArray) => ∃ out : List (List UInt8), s.2.1 = (out.length : Int) ∧ out.length + (tl s.1).count c + 1 = n ∧ splitL c (tl p) = out ++ splitL c (tl s.1) ∧ s.2.2 = out.map ba ++ List.replicate (n - out.length) ⟨#[]⟩ ∧ s.1.size ≤ p.size) (fun s => ((n : Int) - s.2.1).toNat) _ (fun s hI => ?_) _ ⟨[], rfl, by show 0 + (tl p).count c + 1 = n; omega, by simp, by simp, Nat.le_refl _⟩ ?_
  · obtain ⟨t, i, a⟩ := s
    obtain ⟨out, h1, h2, h3, h4, h5⟩ := hI
    dsimp only at h1 h2 h3 h4 h5 ⊢
    subst h1
    have hlt := tl_len t
    by_cases hc : c ∈ tl t
    · left
      have hcnt : 0 < (tl t).count c := List.count_pos_iff.2 hc
      obtain ⟨u, v, huv, hu⟩ := List.eq_append_cons_of_mem hc
      have hidx : Lib.indexByte (tl t) c = (u.length : Int) := by rw [huv]; exact idx_app u v hu
      have hsz : t.size = u.length + (v.length + 1) := by rw [← hlt, huv]; simp
      have hcv : (tl t).count c = v.count c + 1 := by
        rw [huv, List.count_append, List.count_cons_self, List.count_eq_zero.2 hu]; omega
      rw [if_pos (by omega), index_eq, hidx, Option.bind_some, if_neg (by omega), w64_in (x := (u.length : Int) + 0) (by omega) (by omega), w64_in (x := (u.length : Int) + 1) (by omega) (by omega), chk_t (by omega)]
      have hat : atI a (out.length : Int) = some ⟨#[]⟩ := by
        rw [h4]
        have hl : out.length < (out.map ba ++ List.replicate (n - out.length) (⟨#[]⟩ : ByteArray)).length := by simp; omega
        rw [atI_lt hl]
        simp
      rw [hat, Option.bind_some, chk_t (by omega), w64_in (x := (out.length : Int) + 1) (by omega) (by omega)]
      have e1 : t.extract ((u.length : Int) + 1).toNat (t.size : Int).toNat = ba v := by
        refine tl_inj ?_
        have q1 : ((u.length : Int) + 1).toNat = u.length + 1 := by omega
        have q2 : (t.size : Int).toNat = t.size := by omega
        rw [tl_ext, q1, q2, ← hlt, List.take_length, huv, tl_ba]
        simp [List.drop_append]
      have e2 : t.extract (0 : Int).toNat ((u.length : Int) + 0).toNat = ba u := by
        refine tl_inj ?_
        have q1 : ((u.length : Int) + 0).toNat = u.length := by omega
        rw [tl_ext, q1, huv, tl_ba]
        simp
      have e3 : ((out.length : Int)).toNat = out.length := by omega
      rw [e1, e2, e3]
      refine ⟨_, rfl, ⟨out ++ [u], by simp, ?_, ?_, ?_, ?_⟩, by dsimp only; omega⟩
      · show (out ++ [u]).length + (tl (ba v)).count c + 1 = n
        rw [tl_ba, List.length_append, List.length_singleton]; omega
      · show splitL c (tl p) = (out ++ [u]) ++ splitL c (tl (ba v))
        rw [h3, huv, splitL_app hu, tl_ba, List.append_assoc]; rfl
      · show List.set a out.length (ba u) = (out ++ [u]).map ba ++ List.replicate (n - (out ++ [u]).length) ⟨#[]⟩
        obtain ⟨k, hk⟩ : ∃ k, n - out.length = k + 1 := ⟨n - out.length - 1, by omega⟩
        have hk2 : n - (out ++ [u]).length = k := by simp; omega
        rw [h4, hk, hk2, List.replicate_succ, List.map_append]
        have hl : (out.map ba).length = out.length := List.length_map _
        rw [List.set_append_right _ _ (by omega), hl, Nat.sub_self]
        simp
      · show (ba v).size ≤ p.size
        rw [ba_size]; omega
    · right
      have hcnt : (tl t).count c = 0 := List.count_eq_zero.2 hc
      rw [if_neg (by omega)]
      refine ⟨_, rfl, by dsimp only; omega, out, by omega, ?_, ?_⟩
      · rw [h3, splitL_none hc]
      · dsimp only
        rw [h4, show n - out.length = 1 by omega]; rfl
  · dsimp only
    have := List.count_le_length (a := c) (l := tl p)
    have := tl_len p
    omega
theorem split_eq {p : ByteArray} {c : UInt8} (hp : p.size ≤ 1048576) : strings_Split_m p ⟨#[c]⟩ = some ((splitL c (tl p)).map ba) := by
  have hcl := List.count_le_length (a := c) (l := tl p)
  have hpl := tl_len p
  unfold strings_Split_m strings_genSplit_m
  have hne : ¬ ((⟨#[c]⟩ : ByteArray) = ⟨#[]⟩) := by
    intro h
    have : (⟨#[c]⟩ : ByteArray).size = (⟨#[]⟩ : ByteArray).size := by rw [h]
    exact absurd this (by decide : ¬ (1 : Nat) = 0)
  have hcount : strings_Count_m p ⟨#[c]⟩ = some (((tl p).count c : Nat) : Int) := by
    unfold strings_Count_m
    rw [chk_t (show (⟨#[c]⟩ : ByteArray).size = 1 from rfl)]; rfl
  have hone : ((⟨#[c]⟩ : ByteArray).size : Int) = 1 := rfl
  rw [if_neg (by decide), if_neg hne, if_pos (by decide), hcount]
  simp only [Option.bind_some]
  have e1 : w64 ((((tl p).count c : Nat) : Int) + 1) = (((tl p).count c + 1 : Nat) : Int) := by rw [w64_in (by omega) (by omega)]; omega
  have e2 : w64 ((p.size : Int) + 1) = (p.size : Int) + 1 := w64_in (by omega) (by omega)
  rw [e1, e2]
  have e3 : min (((tl p).count c + 1 : Nat) : Int) ((p.size : Int) + 1) = (((tl p).count c + 1 : Nat) : Int) := by omega
  rw [e3, chk_t ⟨by omega, trivial, by omega⟩]
  have e4 : w64 ((((tl p).count c + 1 : Nat) : Int) - 1) = (((tl p).count c + 1 : Nat) : Int) - 1 := w64_in (by omega) (by omega)
  have e5 : ((((tl p).count c + 1 : Nat) : Int)).toNat = (tl p).count c + 1 := by omega
  rw [e4, e5, hone]
  obtain ⟨⟨t, i, a⟩, h1, h2, out, h3, h4, h5⟩ := split_loop (p := p) (c := c) rfl hp
  rw [h1, Option.bind_some]
  dsimp only at h2 h4 h5 ⊢
  subst h2 h5
  have hi : (((tl p).count c + 1 : Nat) : Int) - 1 = ((out.length : Nat) : Int) := by omega
  rw [hi]
  have hl : out.length < (out.map ba ++ [(⟨#[]⟩ : ByteArray)]).length := by simp
  have e6 : ((out.length : Int)).toNat = out.length := by omega
  have e7 : w64 ((out.length : Int) + 1) = (out.length : Int) + 1 := w64_in (by omega) (by omega)
  have e8 : ((out.length : Int) + 1).toNat = out.length + 1 := by omega
  have e9 : List.set (out.map ba ++ [(⟨#[]⟩ : ByteArray)]) out.length t = out.map ba ++ [t] := by
    rw [List.set_append_right _ _ (by simp)]; simp
  rw [atI_lt hl, Option.bind_some, e6, e7, e9, chk_t (by simp; omega), e8, Option.bind_some, h4]
  congr 1
  rw [List.take_of_length_le (by simp)]
  simp [ba_tl]
end Go.Proofs.YtjjelnpehgoagaaGreatDoor
namespace Go.Proofs.YtjjelnpehgoagaaGreatDoor
set_option linter.unusedVariables false
set_option maxRecDepth 100000
theorem splitL_snoc {c : UInt8} : ∀ (l : List UInt8), splitL c (l ++ [c]) = splitL c l ++ [[]]
  | [] => by simp [splitL]
  | b :: l => by
    have ih := splitL_snoc (c := c) l
    rw [List.cons_append, splitL, splitL]
    split
    · rw [ih]; rfl
    · rw [ih]
      cases h : splitL c l with
      | nil => exact absurd h (splitL_ne c l)
      | cons y ys => rfl
theorem splitL_len {c : UInt8} : ∀ (l : List UInt8), (∀ x ∈ splitL c l, x.length ≤ l.length) ∧ (splitL c l).length ≤ l.length + 1
  | [] => by simp [splitL]
  | b :: l => by
    obtain ⟨h1, h2⟩ := splitL_len (c := c) l
    unfold splitL
    split
    · refine ⟨fun x hx => ?_, by simp; omega⟩
      rcases List.mem_cons.1 hx with rfl | hx
      · simp
      · have := h1 x hx; simp; omega
    · cases h : splitL c l with
      | nil => exact absurd h (splitL_ne c l)
      | cons y ys =>
        rw [h] at h1 h2
        refine ⟨fun x hx => ?_, by simp at h2 ⊢; omega⟩
        rcases List.mem_cons.1 hx with rfl | hx
        · have := h1 y (by simp); simp; omega
        · have := h1 x (by simp at hx ⊢; exact .inr hx); simp; omega
def lineW (s : Shape_) : List ByteArray := if s.Kind = 1 then [lineB, decB s.A.X, decB s.A.Y, decB s.B.X, decB s.B.Y] else if s.Kind = 2 then [circB, decB s.A.X, decB s.A.Y, decB s.R] else [labB, decB s.A.X, decB s.A.Y, s.Name]
theorem dec_no {n : Int} {c : UInt8} (hc : c.toNat < 45) : c ∉ tl (decB n) := by
  intro h
  have := dec_bytes n c h
  omega
theorem name_no {s : ByteArray} (h : nameB s = true) {c : UInt8} (hc : c.toNat < 45) : c ∉ tl s := by
  intro hm
  unfold nameB at h
  simp only [Bool.and_eq_true] at h
  have := List.all_eq_true.1 h.2 (c.toNat : Int) (List.mem_map.2 ⟨c, hm, rfl⟩)
  simp [okB, smB, dgB] at this
  omega
theorem sh_name {s : Shape_} (h : shB s = true) (h1 : ¬ s.Kind = 1) (h2 : ¬ s.Kind = 2) : s.Kind = 3 ∧ s.B = ⟨0, 0⟩ ∧ s.R = 0 ∧ nameB s.Name = true := by
  unfold shB at h
  rw [Bool.and_eq_true, if_neg h1, if_neg h2] at h
  obtain ⟨_, h⟩ := h
  split at h
  · simp only [Bool.and_eq_true, decide_eq_true_eq] at h
    rename_i h3
    exact ⟨h3, h⟩
  · cases h
theorem sh_1 {s : Shape_} (h : shB s = true) (h1 : s.Kind = 1) : s.R = 0 ∧ s.Name = ⟨#[]⟩ := by
  unfold shB at h
  rw [Bool.and_eq_true, if_pos h1] at h
  simp only [Bool.and_eq_true, decide_eq_true_eq] at h
  exact h.2.2
theorem sh_2 {s : Shape_} (h : shB s = true) (h2 : s.Kind = 2) : s.B = ⟨0, 0⟩ ∧ s.Name = ⟨#[]⟩ := by
  unfold shB at h
  rw [Bool.and_eq_true, if_neg (by omega), if_pos h2] at h
  simp only [Bool.and_eq_true, decide_eq_true_eq] at h
  exact ⟨h.2.1, h.2.2.2⟩
theorem line_words {s : Shape_} (h : shB s = true) : (splitL 32 (tl (lineT s))).map ba = lineW s := by
  have a1 : (32 : UInt8) ∉ tl (decB s.A.X) := dec_no (by decide)
  have a2 : (32 : UInt8) ∉ tl (decB s.A.Y) := dec_no (by decide)
  have q : tl spcB = [32] := rfl
  unfold lineT lineW
  by_cases h1 : s.Kind = 1
  · have b1 : (32 : UInt8) ∉ tl (decB s.B.X) := dec_no (by decide)
    have b2 : (32 : UInt8) ∉ tl (decB s.B.Y) := dec_no (by decide)
    have e : tl ((lineB ++ atT s.A) ++ atT s.B) = tl lineB ++ 32 :: (tl (decB s.A.X) ++ 32 :: (tl (decB s.A.Y) ++ 32 :: (tl (decB s.B.X) ++ 32 :: tl (decB s.B.Y)))) := by
      unfold atT; simp only [tl_app, q]; simp
    rw [if_pos h1, if_pos h1, e, splitL_app (by decide), splitL_app a1, splitL_app a2, splitL_app b1, splitL_none b2]; rfl
  · rw [if_neg h1, if_neg h1]
    by_cases h2 : s.Kind = 2
    · have b1 : (32 : UInt8) ∉ tl (decB s.R) := dec_no (by decide)
      have e : tl (((circB ++ atT s.A) ++ spcB) ++ decB s.R) = tl circB ++ 32 :: (tl (decB s.A.X) ++ 32 :: (tl (decB s.A.Y) ++ 32 :: tl (decB s.R))) := by
        unfold atT; simp only [tl_app, q]; simp
      rw [if_pos h2, if_pos h2, e, splitL_app (by decide), splitL_app a1, splitL_app a2, splitL_none b1]; rfl
    · have b1 : (32 : UInt8) ∉ tl s.Name := name_no (sh_name h h1 h2).2.2.2 (by decide)
      have e : tl (((labB ++ atT s.A) ++ spcB) ++ s.Name) = tl labB ++ 32 :: (tl (decB s.A.X) ++ 32 :: (tl (decB s.A.Y) ++ 32 :: tl s.Name)) := by
        unfold atT; simp only [tl_app, q]; simp
      rw [if_neg h2, if_neg h2, e, splitL_app (by decide), splitL_app a1, splitL_app a2, splitL_none b1]; rfl
theorem line_no {s : Shape_} (h : shB s = true) : (10 : UInt8) ∉ tl (lineT s) := by
  have a1 : (10 : UInt8) ∉ tl (decB s.A.X) := dec_no (by decide)
  have a2 : (10 : UInt8) ∉ tl (decB s.A.Y) := dec_no (by decide)
  have q : (10 : UInt8) ∉ tl spcB := by decide
  have q1 : (10 : UInt8) ∉ tl lineB := by decide
  have q2 : (10 : UInt8) ∉ tl circB := by decide
  have q3 : (10 : UInt8) ∉ tl labB := by decide
  unfold lineT
  by_cases h1 : s.Kind = 1
  · have b1 : (10 : UInt8) ∉ tl (decB s.B.X) := dec_no (by decide)
    have b2 : (10 : UInt8) ∉ tl (decB s.B.Y) := dec_no (by decide)
    rw [if_pos h1]
    unfold atT
    simp only [tl_app, List.mem_append, not_or]
    exact ⟨⟨q1, ⟨⟨q, a1⟩, q⟩, a2⟩, ⟨⟨q, b1⟩, q⟩, b2⟩
  · rw [if_neg h1]
    by_cases h2 : s.Kind = 2
    · have b1 : (10 : UInt8) ∉ tl (decB s.R) := dec_no (by decide)
      rw [if_pos h2]
      unfold atT
      simp only [tl_app, List.mem_append, not_or]
      exact ⟨⟨⟨q2, ⟨⟨q, a1⟩, q⟩, a2⟩, q⟩, b1⟩
    · have b1 : (10 : UInt8) ∉ tl s.Name := name_no (sh_name h h1 h2).2.2.2 (by decide)
      rw [if_neg h2]
      unfold atT
      simp only [tl_app, List.mem_append, not_or]
      exact ⟨⟨⟨q3, ⟨⟨q, a1⟩, q⟩, a2⟩, q⟩, b1⟩
theorem draw_tl : ∀ (xs : List Shape_) (acc : ByteArray), tl (xs.foldl (fun a s => a ++ (lineT s ++ nlB)) acc) = tl acc ++ xs.flatMap fun s => tl (lineT s) ++ [10]
  | [], acc => by simp
  | s :: r, acc => by
    rw [List.foldl_cons, draw_tl r, tl_app, tl_app, List.flatMap_cons, List.append_assoc]; rfl
theorem draw_split : ∀ (xs : List Shape_), (∀ s ∈ xs, shB s = true) → splitL 10 (xs.flatMap fun s => tl (lineT s) ++ [10]) = xs.map (fun s => tl (lineT s)) ++ [[]]
  | [], _ => rfl
  | s :: r, h => by
    rw [List.flatMap_cons, List.append_assoc]
    show splitL 10 (tl (lineT s) ++ 10 :: _) = _
    rw [splitL_app (line_no (h s (by simp)))]
    show _ :: splitL 10 (r.flatMap fun s => tl (lineT s) ++ [10]) = _
    rw [draw_split r fun t ht => h t (by simp [ht])]; rfl
theorem draw_lines {xs : List Shape_} (h : ∀ s ∈ xs, shB s = true) : splitL 10 (tl (drawT xs)) = xs.map (fun s => tl (lineT s)) ++ [[]] := by
  unfold drawT
  rw [draw_tl]
  exact draw_split xs h
theorem dec_len6 {u : Nat} (h : u < 1000000) : (Lib.decDigits u).length ≤ 6 := by
  by_cases h0 : u = 0
  · subst h0; rw [Lib.decDigits]; simp
  · have e := congrArg List.length (dgs_dec u h0)
    have l := dgs_len 6 u (by omega)
    have e2 : (strOfNums (dgs u)).data.toList.length = (dgs u).length := by simp [strOfNums]
    omega
theorem dec_size7 {n : Int} (h0 : -100000 ≤ n) (h1 : n ≤ 100000) : (decB n).size ≤ 7 := by
  rw [← tl_len]
  rcases Int.lt_or_le n 0 with h | h
  · obtain ⟨m, rfl⟩ : ∃ m : Nat, n = -(m : Int) := ⟨n.natAbs, by omega⟩
    have := dec_len6 (u := m) (by omega)
    rw [decB_neg (by omega), List.length_cons]; omega
  · have := dec_len6 (u := n.toNat) (by omega)
    rw [decB_nat h]; omega
theorem sp_bd {s : Spot_} (h : spB s = true) : (-100000 ≤ s.X ∧ s.X ≤ 100000) ∧ -100000 ≤ s.Y ∧ s.Y ≤ 100000 := by
  unfold spB at h
  rw [Bool.and_eq_true] at h
  exact ⟨of_decide_eq_true h.1, of_decide_eq_true h.2⟩
theorem sh_bd {s : Shape_} (h : shB s = true) : spB s.A = true ∧ (s.Kind = 1 → spB s.B = true) ∧ (s.Kind = 2 → 1 ≤ s.R ∧ s.R ≤ 100000) := by
  unfold shB at h
  rw [Bool.and_eq_true] at h
  refine ⟨h.1, fun hk => ?_, fun hk => ?_⟩
  · have := h.2; rw [if_pos hk, Bool.and_eq_true] at this; exact this.1
  · have := h.2; rw [if_neg (by omega), if_pos hk, Bool.and_eq_true, Bool.and_eq_true] at this; exact of_decide_eq_true this.2.1
theorem line_short {s : Shape_} (h : shB s = true) : (lineT s).size ≤ 49 := by
  obtain ⟨h1, h2, h3⟩ := sh_bd h
  have h4 := (sh_os h).2.2.2
  obtain ⟨ax, ay⟩ := sp_bd h1
  have z1 := dec_size7 ax.1 ax.2
  have z2 := dec_size7 ay.1 ay.2
  have p1 : spcB.size = 1 := rfl
  have p2 : lineB.size = 4 := rfl
  have p3 : circB.size = 6 := rfl
  have p4 : labB.size = 5 := rfl
  unfold lineT
  split
  · rename_i hk
    obtain ⟨bx, by_⟩ := sp_bd (h2 hk)
    have z3 := dec_size7 bx.1 bx.2
    have z4 := dec_size7 by_.1 by_.2
    unfold atT
    simp only [ba_szD, p1, p2]; omega
  · split
    · rename_i hk
      have z3 := dec_size7 (n := s.R) (by have := (h3 hk).1; omega) (h3 hk).2
      unfold atT
      simp only [ba_szD, p1, p3]; omega
    · unfold atT
      simp only [ba_szD, p1, p4]; omega
theorem draw_short {x : Drawing_} (h : drB x = true) : (drawT x.Shapes).size ≤ 60000 := by
  obtain ⟨h1, h2⟩ := dr_all h
  have key : ∀ (xs : List Shape_), (∀ s ∈ xs, shB s = true) → (xs.flatMap fun s => tl (lineT s) ++ [10]).length ≤ 50 * xs.length := by
    intro xs
    induction xs with
    | nil => intro _; simp
    | cons s r ih =>
      intro h
      have z := line_short (h s (by simp))
      have := ih fun t ht => h t (by simp [ht])
      rw [List.flatMap_cons, List.length_append, List.length_append, tl_len]
      simp only [List.length_cons, List.length_nil]
      omega
  rw [← tl_len]
  unfold drawT
  rw [draw_tl]
  have := key _ h2
  simp at this ⊢
  omega
end Go.Proofs.YtjjelnpehgoagaaGreatDoor
namespace Go.Proofs.YtjjelnpehgoagaaGreatDoor
set_option linter.unusedVariables false
set_option maxRecDepth 100000
theorem fillL_ok {α β : Type} {xs : List α} {g : α → β} {z : β} {step : Int × List β → Option ((Int × List β) ⊕ List β)} (hS : ∀ (i : Nat) (hi : i < xs.length) ys, ys.length = xs.length → step ((i : Int), ys) = some (.inl ((i : Int) + 1, List.set ys i (g xs[i])))) (hE : ∀ ys, step ((xs.length : Int), ys) = some (.inr ys)) (hn : xs.length ≤ 9223372036854775807) :
    loopM step (0, List.replicate xs.length z) = some (xs.map g) := by
  refine loopM_eq (fun (s : Int × List β) => 0 ≤ s.1 ∧ s.1 ≤ xs.length ∧ s.2 = (xs.take s.1.toNat).map g ++ List.replicate (xs.length - s.1.toNat) z) (fun (s : Int × List β) => ((xs.length : Int) - s.1).toNat) (fun s hI => ?_) (by simp) (by simp; omega)
  obtain ⟨i, ys⟩ := s
  obtain ⟨q0, q1, q2⟩ := hI
  dsimp only at q0 q1 q2 ⊢
  obtain ⟨j, rfl⟩ : ∃ j : Nat, i = j := ⟨i.toNat, by omega⟩
  have e2 : ((j : Int)).toNat = j := by omega
  rw [e2] at q2
  by_cases hs : j < xs.length
  · left
    have e : ((j : Int) + 1).toNat = j + 1 := by omega
    have hl : ((xs.take j).map g).length = j := by simp; omega
    refine ⟨_, hS j hs ys (by rw [q2]; simp; omega), ⟨by dsimp only; omega, by dsimp only; omega, ?_⟩, by dsimp only; omega⟩
    dsimp only
    obtain ⟨k, hk⟩ : ∃ k, xs.length - j = k + 1 := ⟨xs.length - j - 1, by omega⟩
    rw [e, q2, hk, show xs.length - (j + 1) = k by omega, List.set_append_right _ _ (by omega), hl, Nat.sub_self, List.take_succ_eq_append_getElem hs, List.map_append, List.replicate_succ]
    simp
  · right
    have : j = xs.length := by omega
    subst this
    rw [hE ys, q2, List.take_length]; simp
theorem buildT_ok {α β : Type} {xs : List α} {g : α → β} {step : Int × List β → Option ((Int × List β) ⊕ List β)} (h1 : 1 ≤ xs.length) (hS : ∀ (i : Nat) (hi : i < xs.length) ys, ys.length ≤ i → step ((i : Int), ys) = some (.inl ((i : Int) + 1, ys ++ [g xs[i]]))) (hE : ∀ ys, step ((xs.length : Int), ys) = some (.inr ys)) (hn : xs.length ≤ 9223372036854775807) :
    loopM step (1, []) = some ((xs.drop 1).map g) := by
  refine loopM_eq (fun (s : Int × List β) => 1 ≤ s.1 ∧ s.1 ≤ xs.length ∧ s.2 = ((xs.take s.1.toNat).drop 1).map g) (fun (s : Int × List β) => ((xs.length : Int) - s.1).toNat) (fun s hI => ?_) (by refine ⟨by simp, by show (1 : Int) ≤ xs.length; omega, ?_⟩; show [] = _; cases xs <;> simp) (by simp; omega)
  obtain ⟨i, ys⟩ := s
  obtain ⟨q0, q1, q2⟩ := hI
  dsimp only at q0 q1 q2 ⊢
  obtain ⟨j, rfl⟩ : ∃ j : Nat, i = j := ⟨i.toNat, by omega⟩
  have e2 : ((j : Int)).toNat = j := by omega
  rw [e2] at q2
  by_cases hs : j < xs.length
  · left
    have e : ((j : Int) + 1).toNat = j + 1 := by omega
    have hl : (xs.take j).length = j := by simp; omega
    refine ⟨_, hS j hs ys (by rw [q2]; simp; omega), ⟨by dsimp only; omega, by dsimp only; omega, ?_⟩, by dsimp only; omega⟩
    dsimp only
    rw [e, q2, List.take_succ_eq_append_getElem hs, List.drop_append_of_le_length (by omega), List.map_append]; rfl
  · right
    have : j = xs.length := by omega
    subst this
    rw [hE ys, q2, List.take_length]
theorem words_sz {w : ByteArray} (hw : w.size ≤ 1048576) : (∀ x ∈ (splitL 32 (tl w)).map ba, x.size ≤ 1048576) ∧ 1 ≤ ((splitL 32 (tl w)).map ba).length ∧ ((splitL 32 (tl w)).map ba).length ≤ 1048577 := by
  obtain ⟨h1, h2⟩ := splitL_len (c := 32) (tl w)
  have hl := tl_len w
  have hne := splitL_ne 32 (tl w)
  refine ⟨fun x hx => ?_, ?_, by simp; omega⟩
  · obtain ⟨y, hy, rfl⟩ := List.mem_map.1 hx
    have := h1 y hy
    rw [ba_size]; omega
  · rw [List.length_map]
    cases h : splitL 32 (tl w) with
    | nil => exact absurd h hne
    | cons a b => simp
theorem i_nums {ws : List ByteArray} (hs : ∀ x ∈ ws, x.size ≤ 1048576) (hn : ws.length ≤ 1048577) : loopM (S := Int × List Int) (X := List Int) (fun s7 => (if s7.1 < (ws.length : Int) then ((atI ws s7.1).bind fun v8 => ((i_ReadDecimal_m v8).bind fun v9 => ((atI s7.2 s7.1).bind fun v10 => some (.inl (w64 (s7.1 + 1), List.set s7.2 s7.1.toNat v9.1))))) else some (.inr s7.2))) (0, List.replicate ws.length 0) = some (ws.map fun w => (readD w).1) :=
  fillL_ok (fun i hi ys hy => by
    have hi' : (i : Int) < (ws.length : Int) := by omega
    have e1 : w64 ((i : Int) + 1) = (i : Int) + 1 := w64_in (by omega) (by omega)
    have e2 : ((i : Int)).toNat = i := by omega
    have hy' : i < ys.length := by omega
    simp only [if_pos hi', atI_lt hi, Option.bind_some, i_ReadDecimal_eq (hs _ (List.getElem_mem hi)), atI_lt hy', e1, e2]) (fun ys => by simp) (by omega)
def shapeI (v1 : List ByteArray) (v11 : List Int) : Option (Shape_ × Bool) :=
  ((((atI v1 0).bind fun v12 => (if v12 = lineB then some (decide ((v1.length : Int) = 5)) else some false)) : Option Bool).bind fun v13 =>
  (if v13 = true then ((atI v11 1).bind fun v14 => ((atI v11 2).bind fun v15 => ((atI v11 3).bind fun v16 => ((atI v11 4).bind fun v17 => ((i_line_m (⟨v14, v15⟩ : Spot_) (⟨v16, v17⟩ : Spot_)).bind fun v18 => some (v18, true))))))
  else ((((atI v1 0).bind fun v19 => (if v19 = circB then some (decide ((v1.length : Int) = 4)) else some false)) : Option Bool).bind fun v20 =>
  (if v20 = true then ((atI v11 1).bind fun v21 => ((atI v11 2).bind fun v22 => ((atI v11 3).bind fun v23 => ((i_circle_m (⟨v21, v22⟩ : Spot_) v23).bind fun v24 => some (v24, true)))))
  else ((((atI v1 0).bind fun v25 => (if v25 = labB then some (decide ((v1.length : Int) = 4)) else some false)) : Option Bool).bind fun v26 =>
  (if v26 = true then ((atI v11 1).bind fun v27 => ((atI v11 2).bind fun v28 => ((atI v1 3).bind fun v29 => ((i_label_m (⟨v27, v28⟩ : Spot_) v29).bind fun v30 => some (v30, true)))))
  else some ((⟨0, (⟨0, 0⟩ : Spot_), (⟨0, 0⟩ : Spot_), 0, (⟨#[]⟩ : ByteArray)⟩ : Shape_), false)))))))
theorem i_readShape_at {w : ByteArray} (hw : w.size ≤ 1048576) : i_readShape_m w = shapeI ((splitL 32 (tl w)).map ba) (((splitL 32 (tl w)).map ba).map fun w => (readD w).1) := by
  obtain ⟨h1, h2, h3⟩ := words_sz hw
  unfold i_readShape_m i_wordsOf_m
  rw [show (⟨#[32]⟩ : ByteArray) = ⟨#[(32 : UInt8)]⟩ from rfl, split_eq hw]
  generalize (splitL 32 (tl w)).map ba = ws at *
  have e : ((ws.length : Int)).toNat = ws.length := by omega
  simp only [Option.bind_some, e]
  rw [chk_t (by refine ⟨by omega, ?_, by omega⟩; first | trivial | rfl), i_nums h1 h3, Option.bind_some]
  rfl
theorem shapeI_ok {v1 : List ByteArray} {v11 : List Int} (h1 : 1 ≤ v1.length) (h2 : v11.length = v1.length) : ∃ r, shapeI v1 v11 = some r := by
  have key : Ok (shapeI v1 v11) (fun _ => True) := by
    unfold shapeI i_line_m i_circle_m i_label_m
    have at0 : ∀ t : ByteArray, ∀ k : Int, Ok ((atI v1 0).bind fun v12 => (if v12 = t then some (decide ((v1.length : Int) = k)) else some false)) (fun b => b = true → (v1.length : Int) = k) := fun t k => by
      refine ok_bind (ok_atI (by omega) (by omega)) fun v _ => ok_ite (fun _ => ok_some fun h => of_decide_eq_true h) fun _ => ok_some fun h => by cases h
    refine ok_bind (at0 _ 5) fun b hb => ok_ite (fun h => ?_) fun _ => ?_
    · have := hb h
      exact ok_bind (ok_atI (by omega) (by omega)) fun _ _ => ok_bind (ok_atI (by omega) (by omega)) fun _ _ => ok_bind (ok_atI (by omega) (by omega)) fun _ _ => ok_bind (ok_atI (by omega) (by omega)) fun _ _ => ok_some trivial
    · refine ok_bind (at0 _ 4) fun b hb => ok_ite (fun h => ?_) fun _ => ?_
      · have := hb h
        exact ok_bind (ok_atI (by omega) (by omega)) fun _ _ => ok_bind (ok_atI (by omega) (by omega)) fun _ _ => ok_bind (ok_atI (by omega) (by omega)) fun _ _ => ok_some trivial
      · refine ok_bind (at0 _ 4) fun b hb => ok_ite (fun h => ?_) fun _ => ok_some trivial
        have := hb h
        exact ok_bind (ok_atI (by omega) (by omega)) fun _ _ => ok_bind (ok_atI (by omega) (by omega)) fun _ _ => ok_bind (ok_atI (by omega) (by omega)) fun _ _ => ok_some trivial
  obtain ⟨r, h, _⟩ := key
  exact ⟨r, h⟩
theorem at_ne1 : ¬ circB = lineB := by decide
theorem at_ne2 : ¬ labB = lineB := by decide
theorem at_ne3 : ¬ labB = circB := by decide
theorem shapeI_line {s : Shape_} (h : shB s = true) : shapeI (lineW s) ((lineW s).map fun w => (readD w).1) = some (s, true) := by
  obtain ⟨h1, h2, h3⟩ := sh_bd h
  obtain ⟨ax, ay⟩ := sp_bd h1
  have r1 := r_number (n := s.A.X) (by omega) (by omega)
  have r2 := r_number (n := s.A.Y) (by omega) (by omega)
  obtain ⟨K, ⟨AX, AY⟩, ⟨BX, BY⟩, R, Nm⟩ := s
  dsimp only at *
  unfold shapeI lineW i_line_m i_circle_m i_label_m
  by_cases k1 : K = 1
  · subst k1
    obtain ⟨bx, by_⟩ := sp_bd (h2 rfl)
    dsimp only at bx by_
    have r3 := r_number (n := BX) (by omega) (by omega)
    have r4 := r_number (n := BY) (by omega) (by omega)
    obtain ⟨e1, e2⟩ := sh_1 h rfl
    dsimp only at e1 e2
    subst e1 e2
    simp [atI, r1, r2, r3, r4]
  · by_cases k2 : K = 2
    · subst k2
      have r3 := r_number (n := R) (by have := h3 rfl; omega) (by have := h3 rfl; omega)
      obtain ⟨e1, e2⟩ := sh_2 h rfl
      dsimp only at e1 e2
      simp only [Spot_.mk.injEq] at e1
      obtain ⟨rfl, rfl⟩ := e1
      subst e2
      simp [atI, r1, r2, r3, at_ne1]
    · obtain ⟨k3, e1, e2, e3⟩ := sh_name h k1 k2
      dsimp only at k3 e1 e2 e3
      simp only [Spot_.mk.injEq] at e1
      obtain ⟨rfl, rfl⟩ := e1
      subst k3 e2
      simp [atI, r1, r2, at_ne2, at_ne3]
theorem i_readShape_ok {w : ByteArray} (hw : w.size ≤ 1048576) : ∃ r, i_readShape_m w = some r ∧ ∀ s, shB s = true → w = lineT s → r = (s, true) := by
  obtain ⟨h1, h2, h3⟩ := words_sz hw
  obtain ⟨r, hr⟩ := shapeI_ok h2 (v11 := ((splitL 32 (tl w)).map ba).map fun w => (readD w).1) (List.length_map _)
  refine ⟨r, (i_readShape_at hw).trans hr, fun s hs e => ?_⟩
  rw [e, line_words hs, shapeI_line hs] at hr
  exact (Option.some.inj hr).symm
def numG (w : ByteArray) : Int := ((s_l01Number_m w).getD (0, false)).1
theorem s_nums {ws : List ByteArray} (h1 : 1 ≤ ws.length) (hs : ∀ x ∈ ws, x.size ≤ 1048576) (hn : ws.length ≤ 1048577) : loopM (S := Int × List Int) (X := List Int) (fun s6 => (if s6.1 < (ws.length : Int) then ((atI ws s6.1).bind fun v7 => ((s_l01Number_m v7).bind fun v8 => (chk ((s6.2.length + [v8.1].length) * 1 * 64 ≤ 140737488355328) (some (.inl (w64 (s6.1 + 1), s6.2 ++ [v8.1])))))) else some (.inr s6.2))) (1, ([] : List Int)) = some ((ws.drop 1).map numG) :=
  buildT_ok h1 (fun i hi ys hy => by
    have hi' : (i : Int) < (ws.length : Int) := by omega
    have e1 : w64 ((i : Int) + 1) = (i : Int) + 1 := w64_in (by omega) (by omega)
    obtain ⟨r, hr, _⟩ := (s_l01Number_ok (hs _ (List.getElem_mem hi))).1
    have hg : numG ws[i] = r.1 := by unfold numG; rw [hr]; rfl
    simp only [if_pos hi', atI_lt hi, Option.bind_some, hr, hg]
    rw [chk_t (by simp only [List.length_cons, List.length_nil]; omega), e1]) (fun ys => by simp) (by omega)
def shapeS (v1 : List ByteArray) (v10 : List Int) : Option Shape_ :=
  (((if 1 < (v10.length : Int) then ((atI v10 0).bind fun v11 => ((atI v10 1).bind fun v12 => some (⟨0, (⟨v11, v12⟩ : Spot_), (⟨0, 0⟩ : Spot_), 0, (⟨#[]⟩ : ByteArray)⟩ : Shape_))) else some (⟨0, (⟨0, 0⟩ : Spot_), (⟨0, 0⟩ : Spot_), 0, (⟨#[]⟩ : ByteArray)⟩ : Shape_)) : Option Shape_).bind fun v13 =>
  ((((((atI v1 0).bind fun v14 => (if v14 = lineB then some (decide ((v10.length : Int) = 4)) else some false)) : Option Bool).bind fun v15 =>
  (if v15 = true then ((atI v10 2).bind fun v16 => ((atI v10 3).bind fun v17 => some (⟨1, v13.A, (⟨v16, v17⟩ : Spot_), v13.R, v13.Name⟩ : Shape_)))
  else ((((atI v1 0).bind fun v18 => (if v18 = circB then some (decide ((v10.length : Int) = 3)) else some false)) : Option Bool).bind fun v19 =>
  (if v19 = true then ((atI v10 2).bind fun v20 => some (⟨2, v13.A, v13.B, v20, v13.Name⟩ : Shape_))
  else ((((atI v1 0).bind fun v21 => (if v21 = labB then some (decide ((v10.length : Int) = 3)) else some false)) : Option Bool).bind fun v22 =>
  (if v22 = true then ((atI v1 3).bind fun v23 => some (⟨3, v13.A, v13.B, v13.R, v23⟩ : Shape_)) else some v13)))))) : Option Shape_).bind fun v24 => some v24))
theorem s_l25Read_at {w : ByteArray} (hw : w.size ≤ 1048576) : s_l25Read_m w = shapeS ((splitL 32 (tl w)).map ba) ((((splitL 32 (tl w)).map ba).drop 1).map numG) := by
  obtain ⟨h1, h2, h3⟩ := words_sz hw
  unfold s_l25Read_m
  rw [show (32 : Int) = ((32 : UInt8).toNat : Int) from rfl, s_l01Split_eq hw]
  generalize (splitL 32 (tl w)).map ba = ws at *
  simp only [Option.bind_some]
  rw [s_nums h2 h1 h3, Option.bind_some]
  rfl
theorem shapeS_ok {v1 : List ByteArray} {v10 : List Int} (h1 : 1 ≤ v1.length) (h2 : v10.length + 1 = v1.length) : ∃ r, shapeS v1 v10 = some r := by
  have key : Ok (shapeS v1 v10) (fun _ => True) := by
    unfold shapeS
    have at0 : ∀ t : ByteArray, ∀ k : Int, Ok ((atI v1 0).bind fun v12 => (if v12 = t then some (decide ((v10.length : Int) = k)) else some false)) (fun b => b = true → (v10.length : Int) = k) := fun t k => by
      refine ok_bind (ok_atI (by omega) (by omega)) fun v _ => ok_ite (fun _ => ok_some fun h => of_decide_eq_true h) fun _ => ok_some fun h => by cases h
    refine ok_bind (P := fun _ => True) (ok_ite (fun h => ok_bind (ok_atI (by omega) (by omega)) fun _ _ => ok_bind (ok_atI (by omega) (by omega)) fun _ _ => ok_some trivial) fun _ => ok_some trivial) fun v13 _ => ?_
    refine ok_bind (P := fun _ => True) ?_ fun _ _ => ok_some trivial
    refine ok_bind (at0 _ 4) fun b hb => ok_ite (fun h => ?_) fun _ => ?_
    · have := hb h
      exact ok_bind (ok_atI (by omega) (by omega)) fun _ _ => ok_bind (ok_atI (by omega) (by omega)) fun _ _ => ok_some trivial
    · refine ok_bind (at0 _ 3) fun b hb => ok_ite (fun h => ?_) fun _ => ?_
      · have := hb h
        exact ok_bind (ok_atI (by omega) (by omega)) fun _ _ => ok_some trivial
      · refine ok_bind (at0 _ 3) fun b hb => ok_ite (fun h => ?_) fun _ => ok_some trivial
        have := hb h
        exact ok_bind (ok_atI (by omega) (by omega)) fun _ _ => ok_some trivial
  obtain ⟨r, h, _⟩ := key
  exact ⟨r, h⟩
theorem numG_dec {n : Int} (h0 : -1000000 ≤ n) (h1 : n ≤ 1000000) : numG (decB n) = n := by unfold numG; rw [s_number h0 h1]; rfl
theorem shapeS_line {s : Shape_} (h : shB s = true) : shapeS (lineW s) (((lineW s).drop 1).map numG) = some s := by
  obtain ⟨h1, h2, h3⟩ := sh_bd h
  obtain ⟨ax, ay⟩ := sp_bd h1
  have r1 := numG_dec (n := s.A.X) (by omega) (by omega)
  have r2 := numG_dec (n := s.A.Y) (by omega) (by omega)
  obtain ⟨K, ⟨AX, AY⟩, ⟨BX, BY⟩, R, Nm⟩ := s
  dsimp only at *
  unfold shapeS lineW
  by_cases k1 : K = 1
  · subst k1
    obtain ⟨bx, by_⟩ := sp_bd (h2 rfl)
    dsimp only at bx by_
    have r3 := numG_dec (n := BX) (by omega) (by omega)
    have r4 := numG_dec (n := BY) (by omega) (by omega)
    obtain ⟨e1, e2⟩ := sh_1 h rfl
    dsimp only at e1 e2
    subst e1 e2
    simp [atI, r1, r2, r3, r4]
  · by_cases k2 : K = 2
    · subst k2
      have r3 := numG_dec (n := R) (by have := h3 rfl; omega) (by have := h3 rfl; omega)
      obtain ⟨e1, e2⟩ := sh_2 h rfl
      dsimp only at e1 e2
      simp only [Spot_.mk.injEq] at e1
      obtain ⟨rfl, rfl⟩ := e1
      subst e2
      simp [atI, r1, r2, r3, at_ne1]
    · obtain ⟨k3, e1, e2, e3⟩ := sh_name h k1 k2
      dsimp only at k3 e1 e2 e3
      simp only [Spot_.mk.injEq] at e1
      obtain ⟨rfl, rfl⟩ := e1
      subst k3 e2
      simp [atI, r1, r2, at_ne2, at_ne3]
theorem s_l25Read_ok {w : ByteArray} (hw : w.size ≤ 1048576) : ∃ r, s_l25Read_m w = some r ∧ ∀ s, shB s = true → w = lineT s → r = s := by
  obtain ⟨h1, h2, h3⟩ := words_sz hw
  obtain ⟨r, hr⟩ := shapeS_ok h2 (v10 := (((splitL 32 (tl w)).map ba).drop 1).map numG) (by rw [List.length_map, List.length_drop]; omega)
  refine ⟨r, (s_l25Read_at hw).trans hr, fun s hs e => ?_⟩
  rw [e, line_words hs, shapeS_line hs] at hr
  exact (Option.some.inj hr).symm
end Go.Proofs.YtjjelnpehgoagaaGreatDoor
namespace Go.Proofs.YtjjelnpehgoagaaGreatDoor
set_option linter.unusedVariables false
set_option maxRecDepth 100000
def goodD (p : ByteArray) (x : Drawing_) : Prop := drB x = true ∧ drawT x.Shapes = p
theorem flat_end : ∀ {xs : List Shape_}, xs ≠ [] → ∃ q, (xs.flatMap fun s => tl (lineT s) ++ [10]) = q ++ [10] := by
  intro xs h
  obtain ⟨ys, s, rfl⟩ : ∃ ys s, xs = ys ++ [s] := ⟨xs.dropLast, xs.getLast h, (List.dropLast_concat_getLast h).symm⟩
  exact ⟨(ys.flatMap fun s => tl (lineT s) ++ [10]) ++ tl (lineT s), by simp⟩
theorem drawT_tl (xs : List Shape_) : tl (drawT xs) = xs.flatMap fun s => tl (lineT s) ++ [10] := by
  unfold drawT
  rw [draw_tl]; rfl
theorem map_ba (xs : List Shape_) : (xs.map fun s => tl (lineT s)).map ba = xs.map lineT := by
  rw [List.map_map]; rfl
theorem suffix_eq {p : ByteArray} (hp : 1 ≤ p.size) (hp2 : p.size ≤ 1048576) : internal_stringslite_HasSuffix_m p ⟨#[10]⟩ = some (decide (p.extract (p.size - 1) p.size = ⟨#[10]⟩)) := by
  unfold internal_stringslite_HasSuffix_m
  have h1 : ((⟨#[10]⟩ : ByteArray).size : Int) = 1 := rfl
  have e1 : w64 ((p.size : Int) - 1) = (p.size : Int) - 1 := w64_in (by omega) (by omega)
  have e2 : ((p.size : Int) - 1).toNat = p.size - 1 := by omega
  have e3 : (p.size : Int).toNat = p.size := by omega
  rw [h1, if_pos (by omega), e1, chk_t (by omega), e2, e3]
theorem i_linesOf_ok {p : ByteArray} (hp : p.size ≤ 1048576) : ∃ r, i_linesOf_m p = some r ∧ (∀ w ∈ r.1, w.size ≤ 1048576) ∧ r.1.length ≤ 1048577 ∧ ∀ x : Drawing_, goodD p x → r = (x.Shapes.map lineT, true) := by
  have hl := tl_len p
  unfold i_linesOf_m
  by_cases he : p = ⟨#[]⟩
  · rw [if_pos he]
    refine ⟨_, rfl, fun w hw => (by cases hw), by simp, fun x hx => ?_⟩
    obtain ⟨h1, h2⟩ := hx
    have := draw_lines (dr_all h1).2
    rw [h2, he] at this
    have h3 := congrArg List.length this
    simp [splitL] at h3
    rw [h3]; rfl
  · have hpos : 1 ≤ p.size := by
      rcases Nat.eq_zero_or_pos p.size with h | h
      · exact absurd (tl_inj (List.eq_nil_of_length_eq_zero (by rw [tl_len, h]))) he
      · exact h
    rw [if_neg he]
    unfold strings_HasSuffix_m
    rw [suffix_eq hpos hp]
    simp only [Option.bind_some]
    -- a text of lines ends with the end of a line
    have hend : ∀ x : Drawing_, goodD p x → ∃ q, tl p = q ++ [10] ∧ splitL 10 q = x.Shapes.map fun s => tl (lineT s) := fun x hx => by
      obtain ⟨h1, h2⟩ := hx
      have hd := draw_lines (dr_all h1).2
      have hne : x.Shapes ≠ [] := by
        intro h
        rw [h] at h2
        exact he h2.symm
      obtain ⟨q, hq⟩ := flat_end hne
      rw [← drawT_tl, h2] at hq
      rw [h2, hq, splitL_snoc] at hd
      exact ⟨q, hq, List.append_cancel_right hd⟩
    by_cases hs : p.extract (p.size - 1) p.size = ⟨#[10]⟩
    · rw [decide_eq_true hs]
      unfold strings_TrimSuffix_m internal_stringslite_TrimSuffix_m
      rw [suffix_eq hpos hp, decide_eq_true hs]
      have h1 : ((⟨#[10]⟩ : ByteArray).size : Int) = 1 := rfl
      have e1 : w64 ((p.size : Int) - 1) = (p.size : Int) - 1 := w64_in (by omega) (by omega)
      have e2 : ((p.size : Int) - 1).toNat = p.size - 1 := by omega
      simp only [Option.bind_some, Bool.not_true, Bool.false_eq_true, if_false, if_true]
      rw [h1, e1, chk_t (by omega), e2]
      have e3 : (0 : Int).toNat = 0 := rfl
      simp only [Option.bind_some, e3]
      generalize ht : p.extract 0 (p.size - 1) = t
      have htl : tl t = (tl p).take (p.size - 1) := by rw [← ht, tl_ext]; simp
      have hts : t.size ≤ 1048576 := by rw [← tl_len, htl]; simp; omega
      rw [show (⟨#[10]⟩ : ByteArray) = ⟨#[(10 : UInt8)]⟩ from rfl, split_eq hts]
      obtain ⟨l1, l2⟩ := splitL_len (c := 10) (tl t)
      have l3 := tl_len t
      refine ⟨_, rfl, fun w hw => ?_, by dsimp only; rw [List.length_map]; omega, fun x hx => ?_⟩
      · obtain ⟨y, hy, rfl⟩ := List.mem_map.1 hw
        have := l1 y hy
        rw [ba_size]; omega
      · obtain ⟨q, h2, h3⟩ := hend x hx
        have h4 : tl t = q := by
          rw [htl, h2]
          have : p.size - 1 = q.length := by rw [← hl, h2]; simp
          rw [this]; simp
        rw [h4, h3, map_ba]
    · rw [decide_eq_false hs]
      refine ⟨_, rfl, fun w hw => (by cases hw), by simp, fun x hx => ?_⟩
      exfalso
      obtain ⟨q, h2, _⟩ := hend x hx
      refine hs (tl_inj ?_)
      have : p.size = q.length + 1 := by rw [← hl, h2]; simp
      rw [tl_ext, h2, this, Nat.add_sub_cancel, List.take_of_length_le (by simp), List.drop_left]
theorem i_loop {ls : List ByteArray} (hs : ∀ w ∈ ls, w.size ≤ 1048576) (hn : ls.length ≤ 1048577) : ∃ y, loopM (S := Int × List Shape_) (X := (List Shape_) ⊕ (Drawing_ × Bool)) (fun s7 => (if s7.1 < (ls.length : Int) then ((atI ls s7.1).bind fun v8 => ((i_readShape_m v8).bind fun v9 => (if (!v9.2) = true then some (.inr (.inr ((⟨([] : List Shape_)⟩ : Drawing_), false))) else (chk ((s7.2.length + [v9.1].length) * 7 * 64 ≤ 140737488355328) (some (.inl (w64 (s7.1 + 1), s7.2 ++ [v9.1]))))))) else some (.inr (.inl s7.2)))) (0, ([] : List Shape_)) = some y ∧
    ((y = .inr (⟨[]⟩, false) ∧ ∀ xs : List Shape_, (∀ s ∈ xs, shB s = true) → ls = xs.map lineT → False) ∨ ∃ out, y = .inl out ∧ ∀ xs : List Shape_, (∀ s ∈ xs, shB s = true) → ls = xs.map lineT → out = xs) := by
  refine loopM_of (fun (s : Int × List Shape_) => 0 ≤ s.1 ∧ s.1 ≤ ls.length ∧ (s.2.length : Int) = s.1 ∧ ∀ xs : List Shape_, (∀ s ∈ xs, shB s = true) → ls = xs.map lineT → s.2 = xs.take s.1.toNat) (fun s => ((ls.length : Int) - s.1).toNat) _ (fun s hI => ?_) _ ⟨by simp, by simp, by simp, fun xs _ _ => by simp⟩ (by simp; omega)
  obtain ⟨i, out⟩ := s
  obtain ⟨q0, q1, q2, q3⟩ := hI
  dsimp only at q0 q1 q2 q3 ⊢
  obtain ⟨j, rfl⟩ : ∃ j : Nat, i = j := ⟨i.toNat, by omega⟩
  have e2 : ((j : Int)).toNat = j := by omega
  rw [e2] at q3
  by_cases hj : j < ls.length
  · obtain ⟨r, hr, hx⟩ := i_readShape_ok (hs _ (List.getElem_mem hj))
    have hat : ∀ xs : List Shape_, (∀ s ∈ xs, shB s = true) → ls = xs.map lineT → ∃ h : j < xs.length, r = (xs[j], true) := fun xs h1 h2 => by
      have hl : j < xs.length := by rw [h2, List.length_map] at hj; exact hj
      refine ⟨hl, hx xs[j] (h1 _ (List.getElem_mem hl)) ?_⟩
      simp only [h2, List.getElem_map]
    rw [if_pos (by omega), atI_lt hj, Option.bind_some, hr, Option.bind_some]
    cases hr2 : r.2
    · right
      refine ⟨_, rfl, .inl ⟨rfl, fun xs h1 h2 => ?_⟩⟩
      obtain ⟨hl, e⟩ := hat xs h1 h2
      rw [e] at hr2; cases hr2
    · left
      have e : ((j : Int) + 1).toNat = j + 1 := by omega
      have e1 : w64 ((j : Int) + 1) = (j : Int) + 1 := w64_in (by omega) (by omega)
      simp only [Bool.not_true, Bool.false_eq_true, if_false]
      rw [chk_t (by simp only [List.length_cons, List.length_nil]; omega), e1]
      refine ⟨_, rfl, ⟨by dsimp only; omega, by dsimp only; omega, by simp; omega, fun xs h1 h2 => ?_⟩, by dsimp only; omega⟩
      obtain ⟨hl, e3⟩ := hat xs h1 h2
      dsimp only
      rw [e, q3 xs h1 h2, List.take_succ_eq_append_getElem hl, e3]
  · right
    rw [if_neg (by omega)]
    refine ⟨_, rfl, .inr ⟨out, rfl, fun xs h1 h2 => ?_⟩⟩
    rw [q3 xs h1 h2]
    refine List.take_of_length_le ?_
    have := congrArg List.length h2
    rw [List.length_map] at this
    omega
theorem read_i {p : ByteArray} (hp : p.size ≤ 1048576) : ∃ r, i_ReadDrawing_m p = some r ∧ ((goodD p r.1 ∧ r.2 = true) ∨ r = (⟨[]⟩, false)) ∧ ∀ x, goodD p x → r = (x, true) := by
  obtain ⟨⟨ls, ok⟩, e1, hsz, hlen, hx⟩ := i_linesOf_ok hp
  unfold i_ReadDrawing_m
  rw [e1, Option.bind_some]
  dsimp only at hsz hlen hx ⊢
  cases ok
  · refine ⟨(⟨[]⟩, false), by simp, .inr rfl, fun x hg => ?_⟩
    have := hx x hg
    simp at this
  · by_cases hb : 60000 < (p.size : Int)
    · refine ⟨(⟨[]⟩, false), by simp [hb], .inr rfl, fun x hg => ?_⟩
      have := draw_short hg.1
      rw [hg.2] at this
      omega
    · obtain ⟨y, hy, hpost⟩ := i_loop hsz hlen
      simp only [Bool.not_true, Bool.false_eq_true, if_false, decide_eq_false hb, Option.bind_some]
      rw [hy, Option.bind_some]
      rcases hpost with ⟨rfl, hno⟩ | ⟨out, rfl, hyes⟩
      · refine ⟨(⟨[]⟩, false), rfl, .inr rfl, fun x hg => ?_⟩
        have := hx x hg
        simp only [Prod.mk.injEq, and_true] at this
        exact (hno x.Shapes (dr_all hg.1).2 this).elim
      · simp only [orE_l, i_ValidDrawing_eq, i_DrawingText_eq, Option.bind_some]
        have hout : ∀ x, goodD p x → (⟨out⟩ : Drawing_) = x := fun x hg => by
          have := hx x hg
          simp only [Prod.mk.injEq, and_true] at this
          rw [hyes x.Shapes (dr_all hg.1).2 this]
        by_cases hg : goodD p ⟨out⟩
        · have ht : textD ⟨out⟩ = p := by unfold textD; rw [if_pos hg.1]; exact hg.2
          refine ⟨(⟨out⟩, true), by simp [hg.1, ht], .inl ⟨hg, rfl⟩, fun x hx2 => by rw [hout x hx2]⟩
        · have hb2 : ((if (!drB ⟨out⟩) = true then some true else some (decide (textD ⟨out⟩ ≠ p))) : Option Bool) = some true := by
            cases hd : drB ⟨out⟩
            · rfl
            · have : textD ⟨out⟩ ≠ p := fun h => hg ⟨hd, by unfold textD at h; rw [if_pos hd] at h; exact h⟩
              simp [this]
          rw [hb2]
          refine ⟨(⟨[]⟩, false), rfl, .inr rfl, fun x hx2 => ?_⟩
          rw [← hout x hx2] at hx2
          exact absurd hx2 hg
theorem s_loop {ls : List ByteArray} (hs : ∀ w ∈ ls, w.size ≤ 1048576) (h0 : 1 ≤ ls.length) (hn : ls.length ≤ 1048577) : ∃ out, loopM (S := Int × List Shape_) (X := List Shape_) (fun s6 => (if (w64 (s6.1 + 1)) < (ls.length : Int) then ((atI ls s6.1).bind fun v7 => ((s_l25Read_m v7).bind fun v8 => (chk ((s6.2.length + [v8].length) * 7 * 64 ≤ 140737488355328) (some (.inl (w64 (s6.1 + 1), s6.2 ++ [v8])))))) else some (.inr s6.2))) (0, ([] : List Shape_)) = some out ∧
    (out.length ≤ 1048577 ∧ ∀ xs : List Shape_, (∀ s ∈ xs, shB s = true) → ls = xs.map lineT ++ [⟨#[]⟩] → out = xs) := by
  refine loopM_of (fun (s : Int × List Shape_) => 0 ≤ s.1 ∧ s.1 + 1 ≤ ls.length ∧ (s.2.length : Int) = s.1 ∧ ∀ xs : List Shape_, (∀ s ∈ xs, shB s = true) → ls = xs.map lineT ++ [⟨#[]⟩] → s.2 = xs.take s.1.toNat) (fun s => ((ls.length : Int) - s.1).toNat) _ (fun s hI => ?_) _ ⟨by simp, by simp; omega, by simp, fun xs _ _ => by simp⟩ (by simp; omega)
  obtain ⟨i, out⟩ := s
  obtain ⟨q0, q1, q2, q3⟩ := hI
  dsimp only at q0 q1 q2 q3 ⊢
  obtain ⟨j, rfl⟩ : ∃ j : Nat, i = j := ⟨i.toNat, by omega⟩
  have e2 : ((j : Int)).toNat = j := by omega
  have e1 : w64 ((j : Int) + 1) = (j : Int) + 1 := w64_in (by omega) (by omega)
  rw [e2] at q3
  rw [e1]
  by_cases hj : j + 1 < ls.length
  · have hj' : j < ls.length := by omega
    obtain ⟨r, hr, hx⟩ := s_l25Read_ok (hs _ (List.getElem_mem hj'))
    left
    have e : ((j : Int) + 1).toNat = j + 1 := by omega
    rw [if_pos (by omega), atI_lt hj', Option.bind_some, hr, Option.bind_some, chk_t (by simp only [List.length_cons, List.length_nil]; omega)]
    refine ⟨_, rfl, ⟨by dsimp only; omega, by dsimp only; omega, by simp; omega, fun xs h1 h2 => ?_⟩, by dsimp only; omega⟩
    have hl : j < xs.length := by rw [h2] at hj; simp at hj; omega
    have hrx : r = xs[j] := hx xs[j] (h1 _ (List.getElem_mem hl)) (by
      simp only [h2]
      rw [List.getElem_append_left (by simpa using hl), List.getElem_map])
    dsimp only
    rw [e, q3 xs h1 h2, List.take_succ_eq_append_getElem hl, hrx]
  · right
    rw [if_neg (by omega)]
    refine ⟨_, rfl, by omega, fun xs h1 h2 => ?_⟩
    rw [q3 xs h1 h2]
    refine List.take_of_length_le ?_
    have := congrArg List.length h2
    simp at this
    omega
theorem read_s {p : ByteArray} (hp : p.size ≤ 1048576) : ∃ r, s_ReadDrawing_m p = some r ∧ ((goodD p r.1 ∧ r.2 = true) ∨ r = (⟨[]⟩, false)) ∧ ∀ x, goodD p x → r = (x, true) := by
  unfold s_ReadDrawing_m
  by_cases hb : 60000 < (p.size : Int)
  · rw [if_pos hb]
    refine ⟨(⟨[]⟩, false), rfl, .inr rfl, fun x hg => ?_⟩
    have := draw_short hg.1
    rw [hg.2] at this
    omega
  · rw [if_neg hb, show (10 : Int) = ((10 : UInt8).toNat : Int) from rfl, s_l01Split_eq hp, Option.bind_some]
    obtain ⟨l1, l2⟩ := splitL_len (c := 10) (tl p)
    have l3 := tl_len p
    have l4 : 1 ≤ ((splitL 10 (tl p)).map ba).length := by
      rw [List.length_map]
      cases h : splitL 10 (tl p) with
      | nil => exact absurd h (splitL_ne 10 _)
      | cons a b => simp
    obtain ⟨out, ho, hol, hyes⟩ := s_loop (ls := (splitL 10 (tl p)).map ba) (fun w hw => by
      obtain ⟨y, hy, rfl⟩ := List.mem_map.1 hw
      have := l1 y hy
      rw [ba_size]; omega) l4 (by rw [List.length_map]; omega)
    rw [ho, Option.bind_some]
    have hout : ∀ x, goodD p x → (⟨out⟩ : Drawing_) = x := fun x hg => by
      have hd := draw_lines (dr_all hg.1).2
      rw [hg.2] at hd
      rw [hyes x.Shapes (dr_all hg.1).2 (by rw [hd, List.map_append, map_ba]; rfl)]
    rw [s_l25Ok_eq (by show out.length ≤ _; omega), Option.bind_some]
    by_cases hg : goodD p ⟨out⟩
    · rw [hg.1, s_l25Text_eq hg.1]
      have ht : drawT (Drawing_.mk out).Shapes = p := hg.2
      refine ⟨(⟨out⟩, true), by simp [ht], .inl ⟨hg, rfl⟩, fun x hx2 => by rw [hout x hx2]⟩
    · have hb2 : ((if (!drB ⟨out⟩) = true then some true else ((s_l25Text_m ⟨out⟩).bind fun v12 => some (decide (v12 ≠ p)))) : Option Bool) = some true := by
        cases hd : drB ⟨out⟩
        · rfl
        · rw [s_l25Text_eq hd]
          have : drawT (Drawing_.mk out).Shapes ≠ p := fun h => hg ⟨hd, h⟩
          simp [this]
      rw [hb2]
      refine ⟨(⟨[]⟩, false), rfl, .inr rfl, fun x hx2 => ?_⟩
      rw [← hout x hx2] at hx2
      exact absurd hx2 hg
theorem read_both {p : ByteArray} (hp : p.size ≤ 1048576) : ∃ r, i_ReadDrawing_m p = some r ∧ s_ReadDrawing_m p = some r ∧ ((goodD p r.1 ∧ r.2 = true) ∨ r = (⟨[]⟩, false)) ∧ ∀ x, goodD p x → r = (x, true) := by
  obtain ⟨r, h1, h2, h3⟩ := read_i hp
  obtain ⟨q, g1, g2, g3⟩ := read_s hp
  refine ⟨r, h1, ?_, h2, h3⟩
  rw [g1]
  rcases h2 with ⟨a, b⟩ | a
  · rw [g3 _ a, ← b]
  · rcases g2 with ⟨c, d⟩ | c
    · have := h3 _ c
      rw [a] at this; simp at this
    · rw [a, c]
end Go.Proofs.YtjjelnpehgoagaaGreatDoor
namespace Go.Proofs.YtjjelnpehgoagaaGreatDoor
set_option linter.unusedVariables false
set_option maxRecDepth 100000
theorem ext_size (p : ByteArray) (i j : Nat) : (p.extract i j).size ≤ p.size := by
  rw [← tl_len, tl_ext, ← tl_len p]; simp; omega
theorem spoil_ok {n : Int} {s : L00Src_} {t : ByteArray} (h : srcOk n s) (hn : n ≤ 1000000) (ht : t.size ≤ 1000) : Ok (s_l01Spoil_b_m s t) (fun r => r.1.size ≤ 4000) := by
  unfold s_l01Spoil_b_m
  refine ok_bind (P := fun v => v.1.size ≤ 4000) ?_ fun v12 h12 => ok_some h12
  refine ok_bind (pick_ok h (by omega)) fun v1 h1 => ?_
  have h11 := h1.2.2.2
  refine ok_ite (fun _ => ?_) fun _ => ?_
  · refine ok_bind (pick_ok h11 (by omega)) fun v2 h2 => ?_
    have e : w64 ((t.size : Int) + 1) = (t.size : Int) + 1 := w64_in (by omega) (by omega)
    rw [e] at h2
    have h20 := h2.1
    have h21 : v2.1 ≤ t.size := by rcases h2.2.1 with q | q <;> omega
    refine ok_chk (by omega) (ok_chk (by omega) ?_)
    refine ok_bind (text_ok h2.2.2.2 (by omega) (by simp)) fun v5 h5 => ?_
    have hs5 : v5.1.size = 1 := by
      have := h5.1
      simp only [List.mem_cons, List.not_mem_nil, or_false] at this
      rcases this with e | e | e | e | e | e | e <;> rw [e] <;> rfl
    have x1 := ext_size t (0 : Int).toNat v2.1.toNat
    have x2 := ext_size t v2.1.toNat (t.size : Int).toNat
    refine ok_chk (by omega) (ok_chk (by rw [ByteArray.size_append]; omega) (ok_some ?_))
    rw [ByteArray.size_append, ByteArray.size_append]; omega
  · refine ok_ite (fun _ => ?_) fun _ => ok_some (by dsimp only; omega)
    refine ok_ite (fun ht0 => ?_) fun _ => ok_some (by dsimp only; omega)
    have hpos : 0 < t.size := by
      rcases Nat.eq_zero_or_pos t.size with q | q
      · exact absurd (tl_inj (List.eq_nil_of_length_eq_zero (by rw [tl_len, q]))) ht0
      · exact q
    refine ok_bind (pick_ok h11 (by omega)) fun v8 h8 => ?_
    have h80 := h8.1
    have h81 : v8.1 < t.size := by rcases h8.2.1 with q | q <;> omega
    have e : w64 (v8.1 + 1) = v8.1 + 1 := w64_in (by omega) (by omega)
    rw [e]
    have x1 := ext_size t (0 : Int).toNat v8.1.toNat
    have x2 := ext_size t (v8.1 + 1).toNat (t.size : Int).toNat
    refine ok_chk (by omega) (ok_chk (by omega) (ok_chk (by omega) (ok_some ?_)))
    rw [ByteArray.size_append]; omega
end Go.Proofs.YtjjelnpehgoagaaGreatDoor
namespace Go.Proofs.YtjjelnpehgoagaaGreatDoor
set_option linter.unusedVariables false
theorem grow_eq {n : Int} (h0 : 0 ≤ n) (h1 : n ≤ 100000000) : slices_Grow_LShape_Shape_n_m n = some [] := by
  unfold slices_Grow_LShape_Shape_n_m
  rw [if_neg (by omega)]
  have e : w64 (n - (w64 ((0 : Int) - ((0 : Nat) : Int)))) = n := by rw [w64_in (x := (0 : Int) - ((0 : Nat) : Int)) (by omega) (by omega)]; exact (w64_in (by omega) (by omega)).trans (by omega)
  simp only [Option.bind_some, e]
  by_cases h : 0 < n
  · rw [if_pos h, chk_t (by omega), chk_t ⟨by omega, by simp; omega⟩]; rfl
  · rw [if_neg h]; rfl
theorem concat_eq {xss : List (List Shape_)} {c : Nat} (hc : ∀ v ∈ xss, v.length ≤ c) (hb : c * xss.length ≤ 10000000) (hn : xss.length ≤ 10000000) : slices_Concat_LShape_Shape_m xss = some (xss.flatMap id) := by
  unfold slices_Concat_LShape_Shape_m
  obtain ⟨t, ht, t0, t1⟩ := loopM_of (S := Int × Int) (X := Int) (step := fun s4 => (if s4.2 < (xss.length : Int) then ((((atI xss s4.2).bind fun v5 => (if (w64 (s4.1 + (v5.length : Int))) < 0 then none else some (w64 (s4.1 + (v5.length : Int))))) : Option Int).bind fun v6 => some (.inl (v6, w64 (s4.2 + 1)))) else some (.inr s4.1)))
    (fun (s : Int × Int) => 0 ≤ s.2 ∧ s.2 ≤ xss.length ∧ 0 ≤ s.1 ∧ s.1 ≤ c * s.2) (fun (s : Int × Int) => ((xss.length : Int) - s.2).toNat) (fun x => 0 ≤ x ∧ x ≤ 10000000) (fun s hI => by
      obtain ⟨a, i⟩ := s
      obtain ⟨q0, q1, q2, q3⟩ := hI
      dsimp only at q0 q1 q2 q3 ⊢
      have hci : (c : Int) * i ≤ c * xss.length := Int.mul_le_mul_of_nonneg_left q1 (by omega)
      have hb' : (c : Int) * (xss.length : Int) ≤ 10000000 := by
        have : ((c * xss.length : Nat) : Int) ≤ 10000000 := by omega
        rwa [Int.natCast_mul] at this
      by_cases hs : i < xss.length
      · left
        obtain ⟨e, he, hm, _⟩ := atI_some q0 hs
        have hl := hc e hm
        have hw : w64 (a + (e.length : Int)) = a + e.length := w64_in (by omega) (by
          have : (c : Int) * i + c ≤ 10000000 := by
            have h2 : (c : Int) * (i + 1) ≤ c * xss.length := Int.mul_le_mul_of_nonneg_left (by omega) (by omega)
            rw [Int.mul_add] at h2; omega
          omega)
        refine ⟨(a + e.length, i + 1), ?_, ⟨by dsimp only; omega, by dsimp only; omega, by dsimp only; omega, ?_⟩, by dsimp only; omega⟩
        · simp only [if_pos hs, he, Option.bind_some, hw]
          rw [if_neg (by omega), w64_in (x := i + 1) (by omega) (by omega)]; rfl
        · dsimp only
          rw [Int.mul_add]; omega
      · right; exact ⟨a, by simp [hs], q2, by omega⟩) (0, 0) (by simp) (by simp; omega)
  rw [ht, Option.bind_some, grow_eq t0 (by omega), Option.bind_some, buildF_ok (xs := xss) (f := id) (c := c) hc (fun i hi ys hy => ?_) (fun ys => by simp) (by omega)]
  · simp
  · have e1 : w64 ((i : Int) + 1) = i + 1 := w64_in (by omega) (by omega)
    have hi' : (i : Int) < xss.length := by omega
    have hl := hc xss[i] (List.getElem_mem hi)
    have h2 : c * (i + 1) ≤ c * xss.length := Nat.mul_le_mul_left _ (by omega)
    rw [Nat.mul_add] at h2
    simp only [List.length_nil] at hy
    simp only [if_pos hi', atI_lt hi, Option.bind_some, e1]
    rw [chk_t (by omega)]; rfl
def joinR (x y : Drawing_) : Drawing_ × Int := if drB x = true ∧ drB y = true then (if 1200 < (x.Shapes.length : Int) + (y.Shapes.length : Int) then (⟨[]⟩, 5) else (⟨x.Shapes ++ y.Shapes⟩, 0)) else (⟨[]⟩, 1)
theorem join_eq {x y : Drawing_} (hx : x.Shapes.length ≤ 1048576) (hy : y.Shapes.length ≤ 1048576) : s_JoinDrawings_m x y = some (joinR x y) ∧ i_JoinDrawings_m x y = some (joinR x y) := by
  have l1 := hx
  have l2 := hy
  have e : w64 ((x.Shapes.length : Int) + (y.Shapes.length : Int)) = x.Shapes.length + y.Shapes.length := w64_in (by omega) (by omega)
  unfold s_JoinDrawings_m i_JoinDrawings_m joinR
  simp only [s_l25Ok_eq (x := x) (by omega), s_l25Ok_eq (x := y) (by omega), i_ValidDrawing_eq, Option.bind_some, e]
  rcases Bool.eq_false_or_eq_true (drB x) with h1 | h1
  · rcases Bool.eq_false_or_eq_true (drB y) with h2 | h2
    · have g1 := drB_len h1
      have g2 := drB_len h2
      simp only [h1, h2, Bool.not_true, Bool.false_eq_true, if_false, Option.bind_some, and_self, if_true]
      by_cases h3 : 1200 < (x.Shapes.length : Int) + (y.Shapes.length : Int)
      · simp [h3]
      · rw [if_neg h3, if_neg h3, if_neg h3, chk_t (by simp; omega), chk_t (by simp; omega), concat_eq (c := 1200) (by simp; omega) (by simp) (by simp)]
        simp
    · simp [h1, h2]
  · simp [h1]
end Go.Proofs.YtjjelnpehgoagaaGreatDoor
namespace Go.Proofs.YtjjelnpehgoagaaGreatDoor
set_option linter.unusedVariables false
set_option maxRecDepth 100000
theorem draw_len : ∀ (xs : List Shape_), (∀ s ∈ xs, shB s = true) → (xs.flatMap fun s => tl (lineT s) ++ [10]).length ≤ 50 * xs.length
  | [], _ => by simp
  | s :: r, h => by
    have z := line_short (h s (by simp))
    have := draw_len r fun t ht => h t (by simp [ht])
    rw [List.flatMap_cons, List.length_append, List.length_append, tl_len]
    simp only [List.length_cons, List.length_nil]
    omega
theorem drawSpot_ok {n : Int} {s : L00Src_} (h : srcOk n s) (hn : n ≤ 100000000) : Ok (s_l25DrawSpot_b_m s) (fun r => spB r.1 = true ∧ srcOk (n + 8) r.2) := by
  unfold s_l25DrawSpot_b_m
  refine ok_bind (pick_ok h (by omega)) fun v1 h1 => ?_
  refine ok_bind (pick_ok h1.2.2.2 (by omega)) fun v2 h2 => ?_
  have b1 : v1.1 < 2000 := by rcases h1.2.1 with q | q <;> omega
  have b2 : v2.1 < 2000 := by rcases h2.2.1 with q | q <;> omega
  have c1 := h1.1
  have c2 := h2.1
  refine ok_bind (P := fun r => (-100000 ≤ r.1 ∧ r.1 ≤ 100000) ∧ srcOk (n + 8) r.2) ?_ fun v5 h5 => ok_some ⟨?_, h5.2⟩
  · refine ok_bind (one_ok h2.2.2.2 (by omega)) fun v3 h3 => ?_
    refine ok_ite (fun _ => ?_) fun _ => ok_some ⟨by dsimp only; rw [w64_in (by omega) (by omega)]; omega, srcOk_le h3 (by omega)⟩
    refine ok_bind (among_ok h3 (by omega) (by simp)) fun v4 h4 => ok_some ⟨?_, srcOk_le h4.2 (by omega)⟩
    have := h4.1
    simp only [List.mem_cons, List.not_mem_nil, or_false] at this
    dsimp only
    omega
  · unfold spB btw
    rw [w64_in (by omega) (by omega), decide_eq_true h5.1, decide_eq_true (show -100000 ≤ v2.1 - 1000 ∧ v2.1 - 1000 ≤ 100000 by omega)]; rfl
theorem draw_ok {n : Int} {s : L00Src_} (h : srcOk n s) (hn : n ≤ 10000000) : Ok (s_l25Draw_b_m s) (fun r => (r.1.Shapes.length ≤ 7 ∧ ∀ s ∈ r.1.Shapes, shB s = true) ∧ srcOk (n + 1000) r.2) := by
  unfold s_l25Draw_b_m
  refine ok_bind (P := fun (r : L00Src_ × List Shape_) => (r.2.length ≤ 7 ∧ ∀ s ∈ r.2, shB s = true) ∧ srcOk (n + 1000) r.1) ?_ fun v22 h22 => ok_some ⟨h22.1, h22.2⟩
  refine ok_bind (pick_ok h (by omega)) fun v1 h1 => ?_
  refine ok_loop (I := fun (s : Int × L00Src_ × List Shape_) => 0 ≤ s.1 ∧ s.1 ≤ 7 ∧ ((s.2.2.length : Int) + s.1 ≤ 7 ∧ ∀ t ∈ s.2.2, shB t = true) ∧ srcOk (n + 2 + 100 * (7 - s.1)) s.2.1) (m := fun s => s.1.toNat) ?_ _ ⟨h1.1, by dsimp only; omega, ⟨by dsimp only [List.length]; omega, fun t ht => by cases ht⟩, srcOk_le h1.2.2.2 (by dsimp only; omega)⟩ (by dsimp only; omega)
  rintro ⟨i, src, ys⟩ ⟨h0, h7, ⟨hl, hv⟩, hs⟩
  dsimp only at h0 h7 hl hv hs ⊢
  refine ok_ite (fun hi => ?_) fun _ => ok_some (.inr ⟨_, rfl, ⟨by dsimp only; omega, hv⟩, srcOk_le hs (by omega)⟩)
  refine ok_bind (P := fun (r : L00Src_ × List Shape_) => ((r.2.length : Int) ≤ ys.length + 1 ∧ ∀ t ∈ r.2, shB t = true) ∧ srcOk (n + 2 + 100 * (7 - i) + 20) r.1) ?_ fun v21 h21 => ok_some (.inl ⟨_, rfl, ⟨?_, ?_, ⟨?_, h21.1.2⟩, ?_⟩, ?_⟩)
  · have grow : ∀ t : Shape_, shB t = true → ∀ u ∈ ys ++ [t], shB u = true := fun t ht u hu => by
      rcases List.mem_append.1 hu with h | h
      · exact hv u h
      · rw [List.mem_singleton.1 h]; exact ht
    refine ok_bind (drawSpot_ok hs (by omega)) fun v13 h13 => ?_
    refine ok_bind (pick_ok h13.2 (by omega)) fun v14 h14 => ?_
    refine ok_ite (fun _ => ?_) fun _ => ok_ite (fun _ => ?_) fun _ => ?_
    · refine ok_bind (drawSpot_ok h14.2.2.2 (by omega)) fun v15 h15 => ok_chk (by simp; omega) (ok_some ⟨⟨by simp, grow _ (by unfold shB; rw [h13.1]; simp [h15.1])⟩, srcOk_le h15.2 (by omega)⟩)
    · refine ok_bind (pick_ok h14.2.2.2 (by omega)) fun v17 h17 => ok_chk (by simp; omega) (ok_some ⟨⟨by simp, grow _ (by
          have b1 : v17.1 < 500 := by rcases h17.2.1 with q | q <;> omega
          have c1 := h17.1
          have e : btw (w64 (1 + v17.1)) 1 100000 = true := by rw [w64_in (by omega) (by omega)]; exact decide_eq_true (by omega)
          unfold shB; rw [h13.1]; simp [e])⟩, srcOk_le h17.2.2.2 (by omega)⟩)
    · refine ok_bind (text_ok h14.2.2.2 (by omega) (by simp)) fun v19 h19 => ok_chk (by simp; omega) (ok_some ⟨⟨by simp, grow _ (by
          have hm := h19.1
          simp only [List.mem_cons, List.not_mem_nil, or_false] at hm
          have e : nameB v19.1 = true := by rcases hm with q | q | q <;> (rw [q]; decide)
          unfold shB; rw [h13.1]; simp [e])⟩, srcOk_le h19.2 (by omega)⟩)
  all_goals (dsimp only; rw [w64_in (x := i - 1) (by omega) (by omega)])
  · omega
  · omega
  · have := h21.1.1; omega
  · exact srcOk_le h21.2 (by omega)
  · omega
theorem bent_ok {n : Int} {s : L00Src_} (h : srcOk n s) (hn : n ≤ 1000000) : Ok (s_l25Bent_b_m s) (fun r => r.1.Shapes.length ≤ 1201 ∧ srcOk (n + 2000) r.2) := by
  unfold s_l25Bent_b_m
  refine ok_bind (draw_ok h (by omega)) fun v1 h1 => ?_
  refine ok_bind (pick_ok h1.2 (by omega)) fun v2 h2 => ?_
  refine ok_bind (pick_ok h2.2.2.2 (by omega)) fun v3 h3 => ?_
  have hs3 := h3.2.2.2
  refine ok_bind (P := fun (r : Unit ⊕ (Drawing_ × L00Src_)) => ∀ q, r = .inr q → q.1.Shapes.length ≤ 1201 ∧ srcOk (n + 2000) q.2) ?_ fun r hr => ?_
  · refine ok_ite (fun _ => ?_) fun _ => ok_some (fun q hq => by cases hq)
    refine ok_bind (P := fun (r : List Shape_) => r.length ≤ 1200) ?_ fun v8 h8 => ?_
    · refine ok_loop (I := fun (s : List Shape_) => s.length ≤ 1200) (m := fun s => 1200 - s.length) ?_ _ (by have := h1.1.1; omega) (by have := h1.1.1; omega)
      intro ys hy
      refine ok_ite (fun hi => ok_chk (by simp; omega) (ok_some (.inl ⟨_, rfl, by simp; omega, by simp; omega⟩))) fun _ => ok_some (.inr ⟨_, rfl, hy⟩)
    · refine ok_bind (P := fun (r : L00Src_ × List Shape_) => r.2.length ≤ 1201 ∧ srcOk (n + 2000) r.1) ?_ fun v11 h11 => ok_some (fun q hq => by cases hq; exact h11)
      refine ok_bind (one_ok hs3 (by omega)) fun v9 h9 => ?_
      exact ok_ite (fun _ => ok_chk (by simp; omega) (ok_some ⟨by simp; omega, srcOk_le h9 (by omega)⟩)) fun _ => ok_some ⟨by dsimp only; omega, srcOk_le h9 (by omega)⟩
  · cases r with
    | inr q => exact ok_some (hr q rfl)
    | inl u =>
      have hl := h1.1.1
      refine ok_ite (fun _ => ok_some ⟨by dsimp only; omega, srcOk_le hs3 (by omega)⟩) fun hne => ?_
      have hi : v2.1 < v1.1.Shapes.length := by
        rcases h2.2.1 with h | h <;> omega
      refine ok_bind (P := fun (r : L00Src_ × List Shape_) => r.2.length ≤ 1201 ∧ srcOk (n + 2000) r.1) ?_ fun v23 h23 => ok_some ⟨h23.1, h23.2⟩
      refine ok_ite (fun _ => ok_bind (among_ok hs3 (by omega) (by simp)) fun v13 h13 => ok_bind (ok_atI h2.1 hi) fun e he => ok_some ⟨by simp; omega, srcOk_le h13.2 (by omega)⟩) fun _ => ?_
      refine ok_ite (fun _ => ok_bind (among_ok hs3 (by omega) (by simp)) fun v13 h13 => ok_bind (ok_atI h2.1 hi) fun e he => ok_some ⟨by simp; omega, srcOk_le h13.2 (by omega)⟩) fun _ => ?_
      refine ok_ite (fun _ => ok_bind (among_ok hs3 (by omega) (by simp)) fun v13 h13 => ok_bind (ok_atI h2.1 hi) fun e he => ok_some ⟨by simp; omega, srcOk_le h13.2 (by omega)⟩) fun _ => ?_
      refine ok_ite (fun _ => ok_bind (text_ok hs3 (by omega) (by simp)) fun v13 h13 => ok_bind (ok_atI h2.1 hi) fun e he => ok_some ⟨by simp; omega, srcOk_le h13.2 (by omega)⟩) fun _ => ?_
      exact ok_ite (fun _ => ok_bind (ok_atI h2.1 hi) fun e he => ok_bind (ok_atI h2.1 hi) fun e' he' => ok_some ⟨by simp; omega, srcOk_le hs3 (by omega)⟩) fun _ => ok_some ⟨by dsimp only; omega, srcOk_le hs3 (by omega)⟩
theorem sameDr {x : Drawing_} (hl : x.Shapes.length ≤ 9223372036854775807) : s_SameDrawing_m x x = some true := by
  unfold s_SameDrawing_m
  rw [if_neg (by simp), scanL_ok (xs := x.Shapes) (f := fun _ => true) (d := .inl ()) (e := .inr false) (fun i hi => ?_) (by simp) hl]
  · simp [orE]
  · have e1 : w64 ((i : Int) + 1) = i + 1 := w64_in (by omega) (by omega)
    have hi' : (i : Int) < x.Shapes.length := by omega
    simp [atI_lt hi, e1, hi]
theorem drawJoin_ok {c : List Int} (h1 : c.length ≤ 1000000) (h2 : ∀ b ∈ c, 0 ≤ b ∧ b ≤ 255) : Ok (s_DrawJoinDrawings_m c) (fun r => r.1.Shapes.length ≤ 1201 ∧ r.2.Shapes.length ≤ 1201) := by
  unfold s_DrawJoinDrawings_m
  refine ok_bind (from_ok h1 h2) fun v1 k1 => ?_
  refine ok_bind (bent_ok k1 (by omega)) fun v2 k2 => ?_
  exact ok_bind (bent_ok k2.2 (by omega)) fun v3 k3 => ok_some ⟨k2.1, k3.1⟩
theorem drawReadD_ok {c : List Int} (h1 : c.length ≤ 1000000) (h2 : ∀ b ∈ c, 0 ≤ b ∧ b ≤ 255) : Ok (s_DrawReadDrawing_m c) (fun r => r.size ≤ 1048576) := by
  unfold s_DrawReadDrawing_m
  refine ok_bind (from_ok h1 h2) fun v1 k1 => ?_
  refine ok_bind (one_ok k1 (by omega)) fun v2 k2 => ok_ite (fun _ => ?_) fun _ => ?_
  · refine ok_bind (pick_ok k2 (by omega)) fun v3 k3 => ?_
    have b := k3.1
    have b2 := k3.2.2.1
    have e : w64 (60000 + v3.1) = 60000 + v3.1 := w64_in (by omega) (by omega)
    rw [e]
    refine ok_chk ⟨by omega, by first | trivial | rfl, by omega⟩ (ok_some ?_)
    have : (strOfNums (List.replicate (60000 + v3.1).toNat 0)).size = (60000 + v3.1).toNat := by simp [strOfNums, ByteArray.size]
    omega
  · refine ok_bind (draw_ok k2 (by omega)) fun v5 k5 => ?_
    have hd : drB v5.1 = true := by
      unfold drB
      rw [Bool.and_eq_true]
      exact ⟨decide_eq_true (by have := k5.1.1; omega), List.all_eq_true.2 k5.1.2⟩
    rw [s_l25Text_eq hd, Option.bind_some]
    have hz : (drawT v5.1.Shapes).size ≤ 1000 := by
      have := k5.1.1
      rw [← tl_len, drawT_tl]
      have := draw_len _ k5.1.2
      omega
    exact ok_bind (spoil_ok k5.2 (by omega) hz) fun v7 k7 => ok_some (by omega)
theorem same_tot (x y : Drawing_) (hl : x.Shapes.length ≤ 1000000) : ∃ b, s_SameDrawing_m x y = some b := by
  have key : Ok (s_SameDrawing_m x y) (fun _ => True) := by
    unfold s_SameDrawing_m
    refine ok_ite (fun _ => ok_some trivial) fun hne => ok_bind (P := fun _ => True) ?_ fun v _ => ?_
    · refine ok_loop (I := fun (s : Int) => 0 ≤ s ∧ s ≤ x.Shapes.length) (m := fun s => ((x.Shapes.length : Int) - s).toNat) ?_ _ ⟨by omega, by omega⟩ (by omega)
      intro i hi
      refine ok_ite (fun h => ok_bind (ok_atI hi.1 h) fun a _ => ok_bind (ok_atI hi.1 (by omega)) fun b _ => ok_ite (fun _ => ok_some (.inr ⟨_, rfl, trivial⟩)) fun _ => ok_some (.inl ⟨_, rfl, ?_, ?_⟩)) fun _ => ok_some (.inr ⟨_, rfl, trivial⟩)
      · rw [w64_in (by omega) (by omega)]; omega
      · rw [w64_in (by omega) (by omega)]; omega
    · cases v with
      | inl u => exact ok_some trivial
      | inr u => exact ok_some trivial
  obtain ⟨b, h, _⟩ := key
  exact ⟨b, h⟩
theorem same_is (x y : Drawing_) : i_SameDrawing_m x y = s_SameDrawing_m x y := by
  show (s_SameDrawing_m x y).bind (fun v1 => some v1) = s_SameDrawing_m x y
  cases s_SameDrawing_m x y <;> rfl
theorem drawSame_ok {c : List Int} (h1 : c.length ≤ 1000000) (h2 : ∀ b ∈ c, 0 ≤ b ∧ b ≤ 255) : Ok (s_DrawSameDrawing_m c) (fun r => r.1.Shapes.length ≤ 1000000) := by
  unfold s_DrawSameDrawing_m
  refine ok_bind (from_ok h1 h2) fun v1 k1 => ?_
  refine ok_bind (draw_ok k1 (by omega)) fun v2 k2 => ?_
  have hl := k2.1.1
  refine ok_chk (by simp; omega) ?_
  refine ok_bind (P := fun _ => True) ?_ fun v10 _ => ok_some (by dsimp only; omega)
  refine ok_bind (P := fun (r : Bool × L00Src_) => srcOk 2000 r.2 ∧ (r.1 = true → 0 < v2.1.Shapes.length)) ?_ fun v5 k5 => ?_
  · refine ok_ite (fun h => ok_bind (one_ok k2.2 (by omega)) fun v4 k4 => ok_some ⟨srcOk_le k4 (by omega), fun _ => by simp at h; first | exact h | exact List.length_pos_iff.2 h⟩) fun _ => ok_some ⟨srcOk_le k2.2 (by omega), fun h => by cases h⟩
  · refine ok_ite (fun h => ?_) fun _ => ok_some trivial
    have hp := k5.2 h
    refine ok_bind (pick_ok k5.1 (by omega)) fun v6 k6 => ?_
    have hi : v6.1 < (([] ++ v2.1.Shapes : List Shape_).length : Int) := by
      simp only [List.nil_append] at k6 ⊢
      rcases k6.2.1 with q | q <;> omega
    refine ok_bind (ok_atI k6.1 hi) fun v7 _ => ?_
    refine ok_bind (pick_ok k6.2.2.2 (by omega)) fun v8 k8 => ?_
    exact ok_bind (ok_atI k6.1 hi) fun v9 _ => ok_some trivial
theorem law_drawings (p0 : List Int) (k0 : osL osU8 p0) : l_FnDrawings_m p0 = some true := by
  unfold l_FnDrawings_m l_f6big_m
  rw [Option.bind_some]
  by_cases hb : 4096 < (p0.length : Int)
  · rw [if_pos (by simpa using hb)]
  · rw [if_neg (by simpa using hb)]
    have h2 : ∀ b ∈ p0, 0 ≤ b ∧ b ≤ 255 := k0.2
    obtain ⟨⟨a, b⟩, e1, l1, l2⟩ := drawJoin_ok (c := p0) (by omega) h2
    obtain ⟨t, e2, l3⟩ := drawReadD_ok (c := p0) (by omega) h2
    obtain ⟨⟨v, w⟩, e3, l4⟩ := drawSame_ok (c := p0) (by omega) h2
    dsimp only at l1 l2 l4
    obtain ⟨j1, j2⟩ := join_eq (x := a) (y := b) (by omega) (by omega)
    obtain ⟨r, r1, r2, r3, _⟩ := read_both l3
    obtain ⟨q, hq⟩ := same_tot v w l4
    have lr : r.1.Shapes.length ≤ 1200 := by
      rcases r3 with ⟨hg, _⟩ | hg
      · exact (dr_all hg.1).1
      · rw [hg]; simp
    have lj : (joinR a b).1.Shapes.length ≤ 3000 := by
      unfold joinR
      split
      · split
        · simp
        · simp; omega
      · simp
    unfold s_ValidDrawing_m
    rw [e1, e2, e3]
    simp only [Option.bind_some, j1, j2, i_DrawingText_eq, s_DrawingText_eq (x := a) (by omega), i_ValidDrawing_eq, s_l25Ok_eq (x := a) (by omega), r1, r2, same_is, hq, sameDr (x := r.1) (by omega), sameDr (x := (joinR a b).1) (by omega), ne_eq, not_true_eq_false, if_false, bne_self_eq_false, Bool.false_eq_true, Bool.not_true]
    by_cases hz : (joinR a b).2 = 0
    · rw [if_neg (by simp [hz])]
      have hj : drB a = true ∧ drB b = true ∧ a.Shapes.length + b.Shapes.length ≤ 1200 ∧ (joinR a b).1 = ⟨a.Shapes ++ b.Shapes⟩ := by
        unfold joinR at hz ⊢
        by_cases hab : drB a = true ∧ drB b = true
        · rw [if_pos hab] at hz ⊢
          by_cases hlen : 1200 < (a.Shapes.length : Int) + (b.Shapes.length : Int)
          · rw [if_pos hlen] at hz; simp at hz
          · rw [if_neg hlen]; exact ⟨hab.1, hab.2, by omega, rfl⟩
        · rw [if_neg hab] at hz; simp at hz
      obtain ⟨ha, hb2, hlen, hjo⟩ := hj
      have ta : textD a = drawT a.Shapes := by unfold textD; rw [if_pos ha]
      have tb : textD b = drawT b.Shapes := by unfold textD; rw [if_pos hb2]
      have sa := draw_short ha
      have sb := draw_short hb2
      obtain ⟨u, u1, _, _, u4⟩ := read_both (p := drawT a.Shapes) (by omega)
      have hu := u4 a ⟨ha, rfl⟩
      subst hu
      have hab : drB ⟨a.Shapes ++ b.Shapes⟩ = true := by
        unfold drB
        rw [Bool.and_eq_true]
        refine ⟨decide_eq_true (by simp; omega), List.all_eq_true.2 fun s hs => ?_⟩
        rcases List.mem_append.1 hs with h | h
        · exact (dr_all ha).2 s h
        · exact (dr_all hb2).2 s h
      have tj : textD ⟨a.Shapes ++ b.Shapes⟩ = drawT a.Shapes ++ drawT b.Shapes := by
        unfold textD
        rw [if_pos hab]
        refine tl_inj ?_
        rw [tl_app, drawT_tl, drawT_tl, drawT_tl]
        exact List.flatMap_append
      rw [ta, tb, u1]
      simp only [Option.bind_some, if_true, sameDr (x := a) (by omega), hjo, tj]
      rw [chk_t (by omega)]
      simp
    · rw [if_pos hz]
end Go.Proofs.YtjjelnpehgoagaaGreatDoor
namespace Go.Proofs.YtjjelnpehgoagaaGreatDoor
open Go.ChangeShapes Go.WideShapes Go.ChangeAt Go.RowKit
set_option linter.unusedVariables false
set_option maxRecDepth 100000
theorem var_block {W : World} {n : String} {g : Nat} {cs : Array Value} (hg : Tryz.prog.globalNamed n = some g) (h : W.var? Tryz.prog n = some cs) : ∃ t f, W.heap[g]? = some (.cells cs t f) ∧ g < W.heap.size := by
  unfold World.var? at h
  rw [hg] at h
  simp only [Option.bind_some] at h
  split at h
  · rename_i cs' t f hh
    cases h
    exact ⟨t, f, hh, (Array.getElem?_eq_some_iff.1 hh).1⟩
  · cases h
def litV : DataW Unit → Value
  | .lit (.int k z) => .int k z
  | _ => .bool false
def litsV : DataW Unit → List Value
  | .agg l => l.map litV
  | x => [litV x]
def valsOf : DataW Unit → Array Value
  | .agg l => (l.flatMap litsV).toArray
  | _ => #[]
def putV (cs : Array Value) : Obj → Obj
  | .cells _ t f => .cells cs t f
  | o => o
theorem pow_tab : (Rows.laid_internal_strconv_uint64pow10 : DataW Unit) = Lib.tabData .u64 Lib.pow10Tab := by kernel_rfl
def laidList : List (String × DataW Unit) := [("math/bits.deBruijn32tab", Rows.laid_math_bits_deBruijn32tab), ("math/bits.deBruijn64tab", Rows.laid_math_bits_deBruijn64tab), ("internal/strconv.uint64pow10", Rows.laid_internal_strconv_uint64pow10), ("unicode/utf8.acceptRanges", Rows.laid_unicode_utf8_acceptRanges), ("strconv.ErrRange", Rows.laid_strconv_ErrRange), ("strconv.ErrSyntax", Rows.laid_strconv_ErrSyntax), ("unicode/utf8.first", Rows.laid_unicode_utf8_first)]
theorem tab_named : Tryz.prog.globalNamed "internal/strconv.uint64pow10" = some 3 := by kernel_rfl
theorem glob_tab {W : World} {rest : List (String × DataW Unit)} (h : laidMet Tryz.prog (("internal/strconv.uint64pow10", Rows.laid_internal_strconv_uint64pow10) :: rest) W) :
    (fun b => b < W.heap.size) 3 ∧ (tabG 3 (Lib.pow10Tab.map fun z => Value.int .u64 z)).p W := by
  rw [pow_tab] at h
  have := Lib.tabIs_of_head (t := 131) (e := 82) (n := 20) tab_named (by kernel_rfl) Tryz.underlying131 Tryz.underlying82 (by kernel_rfl) (by kernel_rfl) h
  obtain ⟨t, f, h1, h2⟩ := var_block tab_named this
  exact ⟨h2, t, f, h1⟩
theorem star_err : "*" ++ "errors.errorString" = "*errors.errorString" := by decide
theorem only_err (u : TypeId) (h : Tryz.prog.typeName? 3 u = some "*errors.errorString") : u = 142 :=
  typeName_ptr_named (nm := "errors.errorString") (by rw [star_err]; kernel_rfl) (by kernel_rfl) (by decide) u (by rw [star_err]; exact h)
theorem err_here {n nm : String} {text : List UInt8} {rest : List (String × DataW Unit)} {W : World} {g : Nat} {ti tp te ts : TypeId} {ms : Array (String × TypeId)} {f : Field} (h : laidMet Tryz.prog ((n, .iface nm (.ptr (.agg [.lit (.string text)]))) :: rest) W)
    (hg : Tryz.prog.globalNamed n = some g) (ht : (Tryz.prog.globals[g]?).map (·.type) = some ti) (hi : Tryz.prog.underlying ti = some (.interface ms)) (hrow : ∀ u, Tryz.prog.typeName? 3 u = some nm → u = tp)
    (hp : Tryz.prog.underlying tp = some (.pointer te)) (he : Tryz.prog.underlying te = some (.struct #[f])) (hft : f.type = ts) (hfo : f.offset = 0) (hs : Tryz.prog.underlying ts = some .string) (hc : Tryz.prog.cellsOf te = 1) (hcs : Tryz.prog.cellsOf ts = 1) :
    (fun b => b < W.heap.size) g ∧ (errG g).p W := by
  obtain ⟨a, s, h1, _⟩ := laid_sentinel h hg ht hi hrow hp he hft hfo hs hc hcs
  obtain ⟨t, f, h2, h3⟩ := var_block hg h1
  exact ⟨h3, tp, .pointer (some a), t, f, h2⟩
theorem glob_of_laid {W : World} (h : laidMet Tryz.prog laidList W) : Glob (fun b => b < W.heap.size) W := by
  intro x hx
  simp only [globs, List.mem_cons, List.not_mem_nil, or_false] at hx
  rcases hx with rfl | rfl | rfl
  · exact glob_tab h.tail.tail
  · exact err_here (ti := 60) (tp := 142) (te := 144) h.tail.tail.tail.tail (by kernel_rfl) (by kernel_rfl) Tryz.underlying60 (fun u hu => only_err u hu) (by kernel_rfl) Tryz.underlying144 rfl rfl (by kernel_rfl) (by kernel_rfl) (by kernel_rfl)
  · exact err_here (ti := 60) (tp := 142) (te := 144) h.tail.tail.tail.tail.tail (by kernel_rfl) (by kernel_rfl) Tryz.underlying60 (fun u hu => only_err u hu) (by kernel_rfl) Tryz.underlying144 rfl rfl (by kernel_rfl) (by kernel_rfl) (by kernel_rfl)
def layU (h : Array Obj) : Array Obj := (h.modify 5 (putV (valsOf Rows.laid_unicode_utf8_acceptRanges))).modify 4 (putV (valsOf Rows.laid_unicode_utf8_first))
def textOf : DataW Unit → Value
  | .iface _ (.ptr (.agg [.lit (.string t)])) => .string ⟨t.toArray⟩
  | _ => .bool false
noncomputable def laidWorld (os : Os) : World :=
  let w0 := World.holding Tryz.prog os ⟨#[], #[], []⟩
  let h1 := layU <| ((w0.heap.modify 6 (putV (valsOf Rows.laid_math_bits_deBruijn32tab))).modify 7 (putV (valsOf Rows.laid_math_bits_deBruijn64tab))).modify 3 (putV (valsOf Rows.laid_internal_strconv_uint64pow10))
  let b := h1.size
  { w0 with heap := (((h1.push (.cells #[textOf Rows.laid_strconv_ErrRange] 144)).push (.cells #[textOf Rows.laid_strconv_ErrSyntax] 144)).modify 2 (putV #[.iface 142 (.pointer (some ⟨b, 0, none⟩))])).modify 1 (putV #[.iface 142 (.pointer (some ⟨b + 1, 0, none⟩))]) }
theorem laidWorld_met (os : Os) (args : Array Value) : laidMet Tryz.prog laidList ((laidWorld os).forCall (fun _ _ => 0) ⟨#[], args, []⟩).memory :=
  laidMet_of_run' 8 (by kernel_rfl) (by kernel_rfl)
end Go.Proofs.YtjjelnpehgoagaaGreatDoor
