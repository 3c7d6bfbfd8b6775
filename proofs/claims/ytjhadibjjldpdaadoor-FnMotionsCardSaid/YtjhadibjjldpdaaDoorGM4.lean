/- Texts of this claim, one behind the other (merged by a program of mine). -/
import Derived.Test.YtjhadibjjldpdaaDoorTie
import Derived.Lib.LaidTab
import Derived.Stop.LaidErr
import Derived.SevenTiedAt
import Derived.Test.YtjhadibjjldpdaaDoorGM3
set_option linter.unusedSimpArgs false
set_option linter.unusedVariables false
namespace Go.Proofs.YtjhadibjjldpdaaDoor
set_option linter.unusedVariables false
set_option maxRecDepth 100000
abbrev tl (s : ByteArray) : List UInt8 := s.data.toList
def ba (l : List UInt8) : ByteArray := ⟨l.toArray⟩
theorem tl_ba (l : List UInt8) : tl (ba l) = l := rfl
theorem ba_tl (s : ByteArray) : ba (tl s) = s := rfl
theorem tl_inj {a b : ByteArray} (h : tl a = tl b) : a = b := by rw [← ba_tl a, ← ba_tl b, h]
theorem ba_size (l : List UInt8) : (ba l).size = l.length := by simp [ba, ByteArray.size]
theorem tl_len (s : ByteArray) : (tl s).length = s.size := by show s.data.toList.length = s.data.size; rw [Array.length_toList]
theorem tl_app (a b : ByteArray) : tl (a ++ b) = tl a ++ tl b := by show (a ++ b).data.toList = _; rw [ByteArray.data_append, Array.toList_append]
theorem tl_ext (s : ByteArray) (i j : Nat) : tl (s.extract i j) = ((tl s).take j).drop i := by
  simp [tl, ByteArray.data_extract, Array.toList_extract, List.extract_eq_take_drop]
  try rw [List.drop_take]
theorem strAt_l (s : ByteArray) (i : Nat) : strAt s (i : Int) = ((tl s)[i]?).map fun b => (b.toNat : Int) := by
  rw [strAt_bytes, atI_nat]
  simp [bytesL, tl]
theorem dig1 (d : Nat) (h : d < 10) : (UInt8.ofNat (48 + d)).toNat = 48 + d := by
  simp [UInt8.toNat_ofNat']; omega
theorem dec_digits : ∀ (u : Nat), ∀ b ∈ Lib.decDigits u, 48 ≤ b.toNat ∧ b.toNat ≤ 57 := by
  intro u
  induction u using Nat.strongRecOn with
  | _ u ih =>
    intro b hb
    rw [Lib.decDigits] at hb
    by_cases h1 : u < 10
    · rw [dif_pos h1, List.mem_singleton] at hb
      subst hb
      rw [dig1 u h1]; omega
    · rw [dif_neg h1, List.mem_append, List.mem_singleton] at hb
      rcases hb with hb | rfl
      · exact ih (u / 10) (by omega) b hb
      · rw [dig1 _ (by omega)]; omega
def valL (a : Nat) (l : List UInt8) : Nat := l.foldl (fun a b => a * 10 + (b.toNat - 48)) a
theorem valL_app (a : Nat) (l m : List UInt8) : valL a (l ++ m) = valL (valL a l) m := by simp [valL]
theorem valL_dec : ∀ (u : Nat), valL 0 (Lib.decDigits u) = u := by
  intro u
  induction u using Nat.strongRecOn with
  | _ u ih =>
    rw [Lib.decDigits]
    by_cases h1 : u < 10
    · rw [dif_pos h1]
      simp only [valL, List.foldl_cons, List.foldl_nil, dig1 u h1]; omega
    · rw [dif_neg h1, valL_app, ih (u / 10) (by omega)]
      simp only [valL, List.foldl_cons, List.foldl_nil, dig1 (u % 10) (by omega)]; omega
theorem valL_ge : ∀ (l : List UInt8) (a : Nat), a ≤ valL a l
  | [], a => Nat.le_refl _
  | b :: l, a => by
    have := valL_ge l (a * 10 + (b.toNat - 48))
    have e : valL a (b :: l) = valL (a * 10 + (b.toNat - 48)) l := rfl
    omega
theorem dec_len {u : Nat} (h : u < 1000000000000000000) : 1 ≤ (Lib.decDigits u).length ∧ (Lib.decDigits u).length ≤ 18 := by
  by_cases h0 : u = 0
  · subst h0; rw [Lib.decDigits]; simp
  · have e := congrArg List.length (dgs_dec u h0)
    have l := dgs_len 18 u (by omega)
    have p : (dgs u).length ≠ 0 := by rw [dgs_pos h0]; simp
    have e2 : (strOfNums (dgs u)).data.toList.length = (dgs u).length := by simp [strOfNums]
    omega
theorem parse_val {M : Nat} (hM : 18446744073709551615 ≤ M) : ∀ (l : List UInt8) (a : Nat), (∀ b ∈ l, 48 ≤ b.toNat ∧ b.toNat ≤ 57) → valL a l < 1844674407370955162 → Lib.parseUintM M a l = .ok (valL a l)
  | [], a, _, _ => rfl
  | b :: l, a, h, hv => by
    have hb := h b (by simp)
    have e : valL a (b :: l) = valL (a * 10 + (b.toNat - 48)) l := rfl
    have g := valL_ge l (a * 10 + (b.toNat - 48))
    rw [Lib.parseUintM, if_pos hb, if_neg (by omega), if_neg (by omega), parse_val hM l _ (fun c hc => h c (by simp [hc])) (by omega), e]
theorem decB_nat {n : Int} (h0 : 0 ≤ n) : tl (decB n) = Lib.decDigits n.toNat := by
  show (Lib.itoa n) = _
  rw [Lib.itoa, if_neg (by omega)]
theorem readD_dec {n : Int} (h0 : 0 ≤ n) (h1 : n < 1000000000000000000) : readD (decB n) = (n, true) := by
  have e := decB_nat h0
  have hl := dec_len (u := n.toNat) (by omega)
  have hd := dec_digits n.toNat
  have hv := valL_dec n.toNat
  obtain ⟨c, r, hcr⟩ : ∃ c r, Lib.decDigits n.toNat = c :: r := by
    cases h : Lib.decDigits n.toNat with
    | nil => rw [h] at hl; simp at hl
    | cons c r => exact ⟨c, r, rfl⟩
  have hc := hd c (by rw [hcr]; simp)
  have e1 : digitsOf (decB n) = decB n := by
    unfold digitsOf
    rw [show (decB n).data.toList = Lib.decDigits n.toNat from e, Lib.trimPrefix, if_neg ?_]
    · exact tl_inj e.symm
    · rw [hcr]
      intro hp
      have : c.toNat = 45 := by
        have hp : Lib.hasPrefix (c :: r) [45] = true := hp
        simp [Lib.hasPrefix] at hp
        first | (rw [hp]; rfl) | (rw [← hp]; rfl)
      omega
  have hs : (decB n).size = (Lib.decDigits n.toNat).length := by rw [← tl_len, e]
  have hp : Lib.parseIntB 64 (decB n).data.toList = .ok n := by
    rw [show (decB n).data.toList = Lib.decDigits n.toNat from e]
    unfold Lib.parseIntB
    rw [hcr]
    simp only
    rw [if_neg (by omega), ← hcr]
    unfold Lib.parseUintB
    rw [if_neg (by rw [hcr]; simp), parse_val (by decide) _ _ hd (by rw [hv]; omega), hv]
    simp only
    rw [if_neg (by omega), if_neg (by omega), if_neg (by omega)]
    congr 1; omega
  unfold readD
  rw [e1, if_neg (by omega), hp]
  simp only
  exact if_pos rfl
theorem idx_app {c : UInt8} : ∀ (a b : List UInt8), c ∉ a → Lib.indexByte (a ++ c :: b) c = a.length
  | [], b, _ => by simp [Lib.indexByte]
  | x :: a, b, h => by
    have hx : (x == c) = false := by simp at h ⊢; exact fun e => h.1 e.symm
    have ih := idx_app a b (fun hc => h (List.mem_cons_of_mem _ hc))
    have hne : ((a.length : Int) == -1) = false := by simp
    simp only [List.cons_append, Lib.indexByte, hx, ih, hne, Bool.false_eq_true, if_false, List.length_cons]
    omega
theorem idx_lt {c : UInt8} : ∀ (a : List UInt8), Lib.indexByte a c < a.length
  | [] => by simp [Lib.indexByte]
  | x :: a => by
    have ih := idx_lt (c := c) a
    unfold Lib.indexByte
    (repeat' split) <;> simp <;> omega
theorem cut_some {p : ByteArray} {c : UInt8} (hp : p.size ≤ 1048576) : ∃ r, strings_Cut_m p ⟨#[c]⟩ = some r ∧ r.1.size ≤ p.size ∧ r.2.1.size ≤ p.size := by
  unfold strings_Cut_m internal_stringslite_Cut_m internal_stringslite_Index_m
  have hl := idx_lt (c := c) (tl p)
  rw [tl_len] at hl
  have hsz : (⟨#[c]⟩ : ByteArray).size = 1 := rfl
  rw [chk_t hsz, Option.bind_some]
  have ei : Lib.indexByte p.data.toList ((⟨#[c]⟩ : ByteArray).data.toList.headD 0) = Lib.indexByte (tl p) c := rfl
  rw [ei]
  by_cases h0 : 0 ≤ Lib.indexByte (tl p) c
  · rw [if_pos h0, chk_t (by omega), hsz, w64_in (by omega) (by omega), chk_t (by omega)]
    refine ⟨_, rfl, ?_, ?_⟩
    · dsimp only; rw [← tl_len, tl_ext, ← tl_len p]; simp; omega
    · dsimp only; rw [← tl_len, tl_ext, ← tl_len p]; simp
  · rw [if_neg h0]
    exact ⟨_, rfl, Nat.le_refl _, Nat.zero_le _⟩
theorem cut_at {a b : List UInt8} {c : UInt8} (hc : c ∉ a) (hp : (a ++ c :: b).length ≤ 1048576) : strings_Cut_m (ba (a ++ c :: b)) ⟨#[c]⟩ = some (ba a, ba b, true) := by
  unfold strings_Cut_m internal_stringslite_Cut_m internal_stringslite_Index_m
  have hsz : (⟨#[c]⟩ : ByteArray).size = 1 := rfl
  have e : Lib.indexByte (ba (a ++ c :: b)).data.toList ((⟨#[c]⟩ : ByteArray).data.toList.headD 0) = a.length := idx_app a b hc
  have hs : (ba (a ++ c :: b)).size = a.length + b.length + 1 := by rw [ba_size]; simp; omega
  simp at hp
  rw [chk_t hsz, Option.bind_some, e, if_pos (by omega), chk_t (by omega), hsz, w64_in (by omega) (by omega), chk_t (by omega), Option.bind_some]
  have e1 : (ba (a ++ c :: b)).extract (0 : Int).toNat ((a.length : Int)).toNat = ba a := tl_inj (by rw [tl_ext, tl_ba, tl_ba]; simp)
  have e2 : (ba (a ++ c :: b)).extract ((a.length : Int) + ((1 : Nat) : Int)).toNat (((ba (a ++ c :: b)).size : Nat) : Int).toNat = ba b := tl_inj (by
    rw [tl_ext, tl_ba, tl_ba, hs, List.take_of_length_le (by simp; omega), show ((a.length : Int) + ((1 : Nat) : Int)).toNat = a.length + 1 by omega, show a ++ c :: b = (a ++ [c]) ++ b by simp, show a.length + 1 = (a ++ [c]).length by simp, List.drop_left])
  rw [e1, e2]
def splitL (c : UInt8) : List UInt8 → List (List UInt8)
  | [] => [[]]
  | b :: l => if b = c then [] :: splitL c l else (b :: (splitL c l).headD []) :: (splitL c l).tail
theorem splitL_ne (c : UInt8) : ∀ l, splitL c l ≠ []
  | [] => by simp [splitL]
  | b :: l => by unfold splitL; split <;> simp
theorem splitL_none {c : UInt8} : ∀ {l : List UInt8}, c ∉ l → splitL c l = [l]
  | [], _ => rfl
  | b :: l, h => by
    have ih := splitL_none (l := l) (fun hc => h (List.mem_cons_of_mem _ hc))
    have hb : b ≠ c := fun e => h (by simp [e])
    unfold splitL
    rw [if_neg hb, ih]; rfl
theorem splitL_app {c : UInt8} : ∀ {a b : List UInt8}, c ∉ a → splitL c (a ++ c :: b) = a :: splitL c b
  | [], b, _ => by simp [splitL]
  | x :: a, b, h => by
    have ih := splitL_app (a := a) (b := b) (fun hc => h (List.mem_cons_of_mem _ hc))
    have hb : x ≠ c := fun e => h (by simp [e])
    rw [List.cons_append, splitL, if_neg hb, ih]; rfl
theorem splitL_one {c : UInt8} : ∀ {l x : List UInt8}, splitL c l = [x] → l = x
  | [], x, h => by simp [splitL] at h; first | exact h | exact h.symm
  | b :: l, x, h => by
    unfold splitL at h
    split at h
    · have := splitL_ne c l
      simp at h; exact absurd h.2 this
    · simp only [List.cons.injEq] at h
      obtain ⟨h1, h2⟩ := h
      cases hs : splitL c l with
      | nil => exact absurd hs (splitL_ne c l)
      | cons y ys =>
        rw [hs] at h1 h2
        simp at h1 h2
        subst h2
        rw [splitL_one hs, ← h1]
theorem splitL_two {c : UInt8} : ∀ {l x y : List UInt8}, splitL c l = [x, y] → l = x ++ c :: y
  | [], x, y, h => by simp [splitL] at h
  | b :: l, x, y, h => by
    unfold splitL at h
    split at h
    · rename_i hb
      simp only [List.cons.injEq] at h
      obtain ⟨h1, h2⟩ := h
      rw [splitL_one h2, ← h1, hb]; rfl
    · simp only [List.cons.injEq] at h
      obtain ⟨h1, h2⟩ := h
      cases hs : splitL c l with
      | nil => exact absurd hs (splitL_ne c l)
      | cons w ws =>
        rw [hs] at h1 h2
        simp at h1 h2
        subst h2
        rw [splitL_two hs, ← h1]; rfl
def glue (out : List (List UInt8)) (pend : List UInt8) (rest : List (List UInt8)) : List (List UInt8) := out ++ (pend ++ rest.headD []) :: rest.tail
theorem s_l01Split_eq {p : ByteArray} {c : UInt8} (hp : p.size ≤ 1048576) : s_l01Split_m p (c.toNat : Int) = some ((splitL c (tl p)).map ba) := by
  unfold s_l01Split_m
  have hl := tl_len p
  refine Exists.elim (loopM_of (S := Int × Int × List ByteArray) (X := Int × List ByteArray) (step := fun s6 => (if s6.2.1 < (p.size : Int) then
      ((((strAt p s6.2.1).bind fun v7 => (if v7 = (c.toNat : Int) then (chk (0 ≤ s6.1 ∧ s6.1 ≤ s6.2.1 ∧ s6.2.1 ≤ (p.size : Int)) (chk ((s6.2.2.length + [p.extract s6.1.toNat s6.2.1.toNat].length) * 1 * 64 ≤ 140737488355328) (some (w64 (s6.2.1 + 1), s6.2.2 ++ [p.extract s6.1.toNat s6.2.1.toNat])))) else some (s6.1, s6.2.2))) : Option (Int × List ByteArray)).bind fun v10 =>
        some (.inl (v10.1, w64 (s6.2.1 + 1), v10.2))) else some (.inr (s6.1, s6.2.2))))
    (fun (s : Int × Int × List ByteArray) => ∃ (f i : Nat) (out : List (List UInt8)), s = ((f : Int), (i : Int), out.map ba) ∧ f ≤ i ∧ i ≤ p.size ∧ out.length ≤ i ∧ glue out (((tl p).take i).drop f) (splitL c ((tl p).drop i)) = splitL c (tl p))
    (fun s => ((p.size : Int) - s.2.1).toNat)
    (fun x => ∃ (f : Nat) (out : List (List UInt8)), x = ((f : Int), out.map ba) ∧ f ≤ p.size ∧ out.length ≤ p.size ∧ out ++ [(tl p).drop f] = splitL c (tl p)) (fun s hI => ?_) (0, 0, []) ⟨0, 0, [], rfl, Nat.le_refl _, Nat.zero_le _, Nat.zero_le _, ?_⟩ (by dsimp only; omega)) (fun x hxP => ?_)
  · obtain ⟨f, i, out, rfl, h1, h2, h3, h4⟩ := hI
    dsimp only
    by_cases hi : i < p.size
    · left
      have hit : i < (tl p).length := by omega
      have hs : strAt p (i : Int) = some (((tl p)[i].toNat : Nat) : Int) := by rw [strAt_l, List.getElem?_eq_getElem hit]; rfl
      have hd : (tl p).drop i = (tl p)[i] :: (tl p).drop (i + 1) := List.drop_eq_getElem_cons hit
      have ht : (tl p).take (i + 1) = (tl p).take i ++ [(tl p)[i]] := List.take_succ_eq_append_getElem hit
      rw [if_pos (by omega), hs, Option.bind_some, w64_in (by omega) (by omega)]
      rw [hd] at h4
      by_cases hb : (tl p)[i] = c
      · rw [if_pos (by rw [hb]), chk_t (by omega), chk_t (by simp; omega)]
        refine ⟨_, rfl, ⟨i + 1, i + 1, out ++ [((tl p).take i).drop f], ?_, Nat.le_refl _, by omega, by simp; omega, ?_⟩, by dsimp only; omega⟩
        · dsimp only
          refine Prod.ext (by push_cast; rfl) (Prod.ext (by push_cast; rfl) ?_)
          dsimp only
          rw [List.map_append]
          congr 1
          simp only [List.map_cons, List.map_nil]
          congr 1
          exact tl_inj (by rw [tl_ext, tl_ba]; simp)
        · rw [← h4, splitL, if_pos hb, ht]
          simp only [glue]
          have e0 : ((tl p).take i ++ [(tl p)[i]]).drop (i + 1) = [] := List.drop_eq_nil_of_le (by simp; omega)
          rw [e0]
          cases hq : splitL c ((tl p).drop (i + 1)) with
          | nil => exact absurd hq (splitL_ne _ _)
          | cons y ys => simp
      · have hbn : ¬ (((tl p)[i].toNat : Nat) : Int) = ((c.toNat : Nat) : Int) := fun e => hb (UInt8.toNat_inj.1 (by omega))
        rw [if_neg hbn]
        refine ⟨_, rfl, ⟨f, i + 1, out, ?_, by omega, by omega, by omega, ?_⟩, by dsimp only; omega⟩
        · exact Prod.ext rfl (Prod.ext (by push_cast; rfl) rfl)
        · rw [← h4, splitL, if_neg hb, ht]
          simp only [glue]
          rw [List.drop_append_of_le_length (by simp; omega)]
          simp
    · right
      have : i = p.size := by omega
      subst this
      rw [if_neg (by omega)]
      refine ⟨_, rfl, f, out, rfl, h1, h3, ?_⟩
      have e1 : (tl p).drop p.size = [] := List.drop_of_length_le (by omega)
      rw [← h4, e1, List.take_of_length_le (by omega)]
      simp [glue, splitL]
  · simp [glue]
    cases hq : splitL c (tl p) with
    | nil => exact absurd hq (splitL_ne _ _)
    | cons y ys => simp
  · obtain ⟨hx, hP⟩ := hxP
    rw [hx, Option.bind_some]
    obtain ⟨f, out, rfl, h1, h2, h3⟩ := hP
    dsimp only
    rw [chk_t (by omega), chk_t (by simp; omega), ← h3]
    congr 1
    rw [List.map_append]
    congr 1
    simp only [List.map_cons, List.map_nil]
    congr 1
    exact tl_inj (by rw [tl_ext, tl_ba, List.take_of_length_le (by omega)]; simp)
end Go.Proofs.YtjhadibjjldpdaaDoor
namespace Go.Proofs.YtjhadibjjldpdaaDoor
set_option linter.unusedVariables false
set_option maxRecDepth 100000
def plusB : ByteArray := ⟨#[43]⟩
def slashB : ByteArray := ⟨#[47]⟩
theorem ba_sz (a b : ByteArray) : (a ++ b).size = a.size + b.size := ByteArray.size_append
def idxT (x : Index_) : ByteArray := (((decB x.Turns ++ plusB) ++ decB x.Holes) ++ slashB) ++ decB x.Circle
theorem idx_os {d : Divider_} {x : Index_} (h : idxB d x = true) : osI x.Turns ∧ osI x.Holes ∧ osI x.Circle := by
  obtain ⟨h1, h2, h3, h4, _⟩ := idxB_iff h
  have h5 := (divB_iff h1).1
  exact ⟨⟨by omega, by omega⟩, ⟨by omega, by omega⟩, ⟨by omega, by omega⟩⟩
theorem s_l24Text_eq {x : Index_} (h1 : osI x.Turns) (h2 : osI x.Holes) (h3 : osI x.Circle) : s_l24Text_m x = some (idxT x) := by
  have z1 := decB_size h1
  have z2 := decB_size h2
  have z3 := decB_size h3
  unfold s_l24Text_m
  rw [show (⟨#[43]⟩ : ByteArray) = plusB from rfl, show (⟨#[47]⟩ : ByteArray) = slashB from rfl, s_l01Dec_eq h1, s_l01Dec_eq h2, s_l01Dec_eq h3]
  have p1 : plusB.size = 1 := rfl
  have p2 : slashB.size = 1 := rfl
  simp only [Option.bind_some, ba_sz, p1, p2]
  rw [chk_t (by omega), chk_t (by omega), chk_t (by omega), chk_t (by omega)]
  rfl
theorem i_IndexText_eq {d : Divider_} {x : Index_} (hl : d.Circles.length ≤ 9223372036854775807) : i_IndexText_m d x = some (if idxB d x = true then idxT x else ⟨#[]⟩) := by
  unfold i_IndexText_m
  rw [i_ValidIndex_eq hl, Option.bind_some]
  cases hb : idxB d x
  · rfl
  obtain ⟨h1, h2, h3⟩ := idx_os hb
  have z1 := decB_size h1
  have z2 := decB_size h2
  have z3 := decB_size h3
  rw [show (⟨#[43]⟩ : ByteArray) = plusB from rfl, show (⟨#[47]⟩ : ByteArray) = slashB from rfl, i_Decimal_eq h1, i_Decimal_eq h2, i_Decimal_eq h3]
  have p1 : plusB.size = 1 := rfl
  have p2 : slashB.size = 1 := rfl
  simp only [Option.bind_some, ba_sz, p1, p2, Bool.not_true, Bool.false_eq_true, if_false, if_true]
  rw [chk_t (by omega), chk_t (by omega), chk_t (by omega), chk_t (by omega)]
  rfl
theorem s_IndexText_eq {d : Divider_} {x : Index_} (hl : d.Circles.length ≤ 9223372036854775807) : s_IndexText_m d x = some (if idxB d x = true then idxT x else ⟨#[]⟩) := by
  unfold s_IndexText_m
  rw [s_l24Index_eq hl, Option.bind_some]
  cases hb : idxB d x
  · rfl
  obtain ⟨h1, h2, h3⟩ := idx_os hb
  rw [s_l24Text_eq h1 h2 h3]
  rfl
end Go.Proofs.YtjhadibjjldpdaaDoor
namespace Go.Proofs.YtjhadibjjldpdaaDoor
set_option linter.unusedVariables false
set_option maxRecDepth 100000
theorem s_digit (b : Int) : s_l01Digit_m b = some (decide (48 ≤ b ∧ b ≤ 57)) := by
  unfold s_l01Digit_m
  by_cases h : 48 ≤ b <;> simp [h]
theorem u8sub {b : Nat} (h0 : 48 ≤ b) (h1 : b ≤ 57) : w64 (IntKind.u8.wrap ((b : Int) - 48)) = (b : Int) - 48 := by
  have e : IntKind.u8.wrap ((b : Int) - 48) = (b : Int) - 48 := by
    unfold IntKind.wrap
    simp [IntKind.signed, IntKind.bits]
    omega
  rw [e, w64_in (by omega) (by omega)]
theorem num_loop {l : List UInt8} (hl : l.length ≤ 18) {step : Int × Int → Option ((Int × Int) ⊕ (Int ⊕ (Int × Bool)))}
    (hS : ∀ (n : Int) (i : Nat) (b : UInt8), l[i]? = some b → 0 ≤ n → n < 1000000000000000000 → step (n, (i : Int)) = if 48 ≤ b.toNat ∧ b.toNat ≤ 57 then some (.inl (w64 (w64 (10 * n) + ((b.toNat : Int) - 48)), w64 ((i : Int) + 1))) else some (.inr (.inr (0, false))))
    (hE : ∀ n, step (n, (l.length : Int)) = some (.inr (.inl n))) :
    ∃ x, loopM step (0, 0) = some x ∧ ((x = .inr (0, false)) ∨ ∃ n, x = .inl n ∧ 0 ≤ n ∧ n < 1000000000000000000 ∧ n = (valL 0 l : Int)) ∧ ((∀ b ∈ l, 48 ≤ b.toNat ∧ b.toNat ≤ 57) → x = .inl (valL 0 l : Int)) := by
  have pw : ∀ i : Nat, i ≤ 18 → (10 : Int) ^ i ≤ 1000000000000000000 := fun i hi => by
    have : (10 : Nat) ^ i ≤ 10 ^ 18 := Nat.pow_le_pow_right (by omega) hi
    have h2 : ((10 ^ i : Nat) : Int) ≤ ((10 ^ 18 : Nat) : Int) := by omega
    simpa using h2
  refine loopM_of (fun (s : Int × Int) => ∃ i : Nat, i ≤ l.length ∧ s = ((valL 0 (l.take i) : Int), (i : Int)) ∧ (valL 0 (l.take i) : Int) < 10 ^ i) (fun s => ((l.length : Int) - s.2).toNat) _ (fun s hI => ?_) (0, 0) ⟨0, Nat.zero_le _, rfl, by simp [valL]⟩ (by dsimp only; omega)
  obtain ⟨i, hi, rfl, hv⟩ := hI
  have hp := pw i (by omega)
  by_cases hlt : i < l.length
  · have hb : l[i]? = some l[i] := List.getElem?_eq_getElem hlt
    rw [hS _ i l[i] hb (by omega) (by omega)]
    by_cases hd : 48 ≤ l[i].toNat ∧ l[i].toNat ≤ 57
    · left
      have ht : l.take (i + 1) = l.take i ++ [l[i]] := by rw [List.take_add_one, hb]; rfl
      have hval : valL 0 (l.take (i + 1)) = valL 0 (l.take i) * 10 + (l[i].toNat - 48) := by rw [ht, valL_app]; rfl
      have hp2 := pw (i + 1) (by omega)
      have hps : (10 : Int) ^ (i + 1) = 10 * 10 ^ i := by rw [Int.pow_succ]; omega
      rw [if_pos hd, w64_in (x := 10 * _) (by omega) (by omega), w64_in (by omega) (by omega), w64_in (by omega) (by omega)]
      refine ⟨_, rfl, ⟨i + 1, by omega, ?_, ?_⟩, by dsimp only; omega⟩
      · rw [hval]
        refine Prod.ext ?_ (by push_cast; rfl)
        dsimp only
        omega
      · rw [hval, hps]
        omega
    · right
      rw [if_neg hd]
      exact ⟨_, rfl, .inl rfl, fun hall => absurd (hall _ (List.getElem_mem hlt)) hd⟩
  · right
    have : i = l.length := by omega
    subst this
    rw [hE]
    rw [List.take_length] at hv ⊢
    exact ⟨_, rfl, .inr ⟨_, rfl, by omega, by omega, rfl⟩, fun _ => rfl⟩
theorem s_l01Number_ok {p : ByteArray} (hp : p.size ≤ 1048576) : (∃ r, s_l01Number_m p = some r ∧ (r.2 = true → decB r.1 = p ∧ osI r.1)) ∧ ∀ n : Int, 0 ≤ n → n < 1000000000000000000 → p = decB n → s_l01Number_m p = some (n, true) := by
  unfold s_l01Number_m
  -- the text behind the sign
  obtain ⟨t, ht, hts, htd⟩ : ∃ t : ByteArray, ((((if p ≠ (⟨#[]⟩ : ByteArray) then ((strAt p 0).bind fun v1 => some (decide (v1 = 45))) else some false) : Option Bool).bind fun v2 =>
      (if v2 = true then (chk (0 ≤ (1 : Int) ∧ (1 : Int) ≤ (p.size : Int) ∧ (p.size : Int) ≤ (p.size : Int)) (some (p.extract (1 : Int).toNat (p.size : Int).toNat))) else some p)) : Option ByteArray) = some t ∧ t.size ≤ p.size ∧ ((∀ b ∈ tl p, 48 ≤ b.toNat ∧ b.toNat ≤ 57) → t = p) := by
    by_cases he : p = ⟨#[]⟩
    · exact ⟨p, by simp [he], Nat.le_refl _, fun _ => rfl⟩
    · have hpos : 0 < p.size := by
        rcases Nat.eq_zero_or_pos p.size with h | h
        · exact absurd (tl_inj (List.eq_nil_of_length_eq_zero (by rw [tl_len, h]))) he
        · exact h
      have hl := tl_len p
      have h0 : strAt p 0 = some (((tl p)[0].toNat : Nat) : Int) := by
        have := strAt_l p 0
        rw [List.getElem?_eq_getElem (by omega)] at this
        exact this
      rw [if_pos he, h0]
      simp only [Option.bind_some]
      by_cases hm : (((tl p)[0].toNat : Nat) : Int) = 45
      · refine ⟨p.extract (1 : Int).toNat (p.size : Int).toNat, ?_, ?_, fun hall => ?_⟩
        · simp only [hm, decide_true, if_true]
          rw [chk_t (by omega)]
        · rw [← tl_len, tl_ext, ← tl_len]; simp
        · have := hall _ (List.getElem_mem (show 0 < (tl p).length by omega)); omega
      · exact ⟨p, by rw [decide_eq_false hm, if_neg (by decide)], Nat.le_refl _, fun _ => rfl⟩
  rw [ht, Option.bind_some]
  have hl := tl_len t
  by_cases hz : (t.size : Int) < 1 ∨ 18 < (t.size : Int)
  · have e : ((if (t.size : Int) < 1 then some true else some (decide (18 < (t.size : Int)))) : Option Bool) = some true := by
      rcases hz with h | h
      · rw [if_pos h]
      · split
        · rfl
        · rw [decide_eq_true h]
    rw [e, Option.bind_some, if_pos rfl]
    refine ⟨⟨_, rfl, fun h => by cases h⟩, fun n h0 h1 hpn => ?_⟩
    exfalso
    have e2 := decB_nat h0
    have hd := dec_digits n.toNat
    have hln := dec_len (u := n.toNat) (by omega)
    have htp := htd (by rw [hpn, e2]; exact hd)
    rw [htp, ← tl_len, hpn, e2] at hz
    omega
  · have e : ((if (t.size : Int) < 1 then some true else some (decide (18 < (t.size : Int)))) : Option Bool) = some false := by
      rw [if_neg (fun h => hz (.inl h)), decide_eq_false (fun h => hz (.inr h))]
    rw [e, Option.bind_some, if_neg (by decide)]
    obtain ⟨x, hx, hx1, hx2⟩ := num_loop (l := tl t) (by omega) (step := fun s10 => (if s10.2 < (t.size : Int) then ((strAt t s10.2).bind fun v11 => ((s_l01Digit_m v11).bind fun v12 => (if (!v12) = true then some (.inr (.inr (0, false))) else ((strAt t s10.2).bind fun v13 => some (.inl (w64 ((w64 (10 * s10.1)) + (w64 (IntKind.u8.wrap (v13 - 48)))), w64 (s10.2 + 1))))))) else some (.inr (.inl s10.1)))) (fun n i b hb h0 h1 => by
        have hi : i < (tl t).length := (List.getElem?_eq_some_iff.1 hb).1
        have hs : strAt t (i : Int) = some ((b.toNat : Nat) : Int) := by rw [strAt_l, hb]; rfl
        simp only [if_pos (show (i : Int) < (t.size : Int) by omega), hs, Option.bind_some, s_digit]
        by_cases hd : 48 ≤ b.toNat ∧ b.toNat ≤ 57
        · rw [if_pos hd, decide_eq_true (show 48 ≤ ((b.toNat : Nat) : Int) ∧ ((b.toNat : Nat) : Int) ≤ 57 by omega), u8sub hd.1 hd.2]; rfl
        · rw [if_neg hd, decide_eq_false (show ¬ (48 ≤ ((b.toNat : Nat) : Int) ∧ ((b.toNat : Nat) : Int) ≤ 57) by omega)]; rfl) (fun n => by simp only [if_neg (show ¬ ((tl t).length : Int) < (t.size : Int) by omega)])
    rw [hx, Option.bind_some]
    refine ⟨?_, fun n h0 h1 hpn => ?_⟩
    · rcases hx1 with rfl | ⟨v, rfl, v0, v1, _⟩
      · exact ⟨(0, false), rfl, fun h => by cases h⟩
      · simp only [orE_l]
        obtain ⟨m, hm, hmo⟩ : ∃ m, ((if (t.size : Int) < (p.size : Int) then some (w64 (-v)) else some v) : Option Int) = some m ∧ osI m := by
          split
          · exact ⟨_, rfl, by rw [w64_in (by omega) (by omega)]; exact ⟨by omega, by omega⟩⟩
          · exact ⟨_, rfl, by omega, by omega⟩
        rw [hm, Option.bind_some, s_l01Dec_eq hmo, Option.bind_some]
        by_cases hq : decB m = p
        · rw [if_neg (by simp [hq])]
          exact ⟨_, rfl, fun _ => ⟨hq, hmo⟩⟩
        · rw [if_pos hq]
          exact ⟨_, rfl, fun h => by cases h⟩
    · have e2 := decB_nat h0
      have hd := dec_digits n.toNat
      have htp := htd (by rw [hpn, e2]; exact hd)
      have hv := hx2 (by rw [htp, hpn, e2]; exact hd)
      rw [htp, hpn, e2, valL_dec] at hv
      subst hv
      simp only [orE_l]
      rw [if_neg (by rw [htp]; omega), Option.bind_some, show ((n.toNat : Nat) : Int) = n by omega, s_l01Dec_eq ⟨by omega, by omega⟩, Option.bind_some, if_neg (by simp [hpn])]
theorem no_plus {n : Int} (h0 : 0 ≤ n) {c : UInt8} (hc : c.toNat < 48) : c ∉ tl (decB n) := by
  rw [decB_nat h0]
  intro h
  have := dec_digits _ c h
  omega
theorem idxT_l (x : Index_) : tl (idxT x) = tl (decB x.Turns) ++ 43 :: (tl (decB x.Holes) ++ 47 :: tl (decB x.Circle)) := by
  unfold idxT plusB slashB
  simp only [tl_app]
  show (((tl (decB x.Turns) ++ [43]) ++ tl (decB x.Holes)) ++ [47]) ++ tl (decB x.Circle) = _
  simp
def goodX (d : Divider_) (s : ByteArray) (x : Index_) : Prop := idxB d x = true ∧ idxT x = s
theorem idx_pos {d : Divider_} {x : Index_} (h : idxB d x = true) : (0 ≤ x.Turns ∧ x.Turns < 1000000000000000000) ∧ (0 ≤ x.Holes ∧ x.Holes < 1000000000000000000) ∧ 0 ≤ x.Circle ∧ x.Circle < 1000000000000000000 := by
  obtain ⟨h1, h2, h3, h4, _⟩ := idxB_iff h
  have := (divB_iff h1).1
  omega
theorem i_ReadDecimal_eq {p : ByteArray} (hp : p.size ≤ 1048576) : i_ReadDecimal_m p = some (readD p) := by
  unfold i_ReadDecimal_m
  rw [chk_t (by omega)]
theorem i_ReadIndex_ok {d : Divider_} {s : ByteArray} (hd : d.Circles.length ≤ 1048576) (hs : s.size ≤ 1048576) : ∃ r, i_ReadIndex_m d s = some r ∧ ((goodX d s r.1 ∧ r.2 = true) ∨ r = (⟨0, 0, 0⟩, false)) ∧ ∀ x, goodX d s x → r = (x, true) := by
  unfold i_ReadIndex_m
  obtain ⟨r1, c1, c2, c3⟩ := cut_some (c := 43) hs
  obtain ⟨r2, d1, d2, d3⟩ := cut_some (p := r1.2.1) (c := 47) (by omega)
  rw [c1, Option.bind_some, d1, Option.bind_some, i_ReadDecimal_eq (by omega), Option.bind_some, i_ReadDecimal_eq (by omega), Option.bind_some, i_ReadDecimal_eq (by omega), Option.bind_some, i_ValidIndex_eq (by omega), Option.bind_some, i_IndexText_eq (by omega)]
  have good : ∀ x, goodX d s x → (⟨(readD r1.1).1, (readD r2.1).1, (readD r2.2.1).1⟩ : Index_) = x := by
    intro x hx
    obtain ⟨p1, p2, p3⟩ := idx_pos hx.1
    have e := idxT_l x
    rw [hx.2] at e
    have es : s = ba (tl (decB x.Turns) ++ 43 :: (tl (decB x.Holes) ++ 47 :: tl (decB x.Circle))) := tl_inj (by rw [e]; rfl)
    have hl := tl_len s
    have f1 := cut_at (a := tl (decB x.Turns)) (b := tl (decB x.Holes) ++ 47 :: tl (decB x.Circle)) (c := 43) (no_plus p1.1 (by decide)) (by rw [← e]; omega)
    rw [← es, c1] at f1
    injection f1 with f1
    subst f1
    have f2 := cut_at (a := tl (decB x.Holes)) (b := tl (decB x.Circle)) (c := 47) (no_plus p2.1 (by decide)) (by rw [← tl_ba (tl (decB x.Holes) ++ 47 :: tl (decB x.Circle)), tl_len]; exact Nat.le_trans c3 hs)
    dsimp only at d1
    rw [d1] at f2
    injection f2 with f2
    subst f2
    dsimp only
    rw [ba_tl, ba_tl, ba_tl, readD_dec p1.1 p1.2, readD_dec p2.1 p2.2, readD_dec p3.1 p3.2]
  generalize (⟨(readD r1.1).1, (readD r2.1).1, (readD r2.2.1).1⟩ : Index_) = y at good
  by_cases hv : idxB d y = true
  · by_cases ht : idxT y = s
    · refine ⟨(y, true), by simp [hv, ht], .inl ⟨⟨hv, ht⟩, rfl⟩, fun x hx => by rw [good x hx]⟩
    · exact ⟨(⟨0, 0, 0⟩, false), by simp [hv, ht], .inr rfl, fun x hx => absurd (by rw [good x hx]; exact hx.2) ht⟩
  · refine ⟨(⟨0, 0, 0⟩, false), ?_, .inr rfl, fun x hx => absurd (by rw [good x hx]; exact hx.1) hv⟩
    rw [Bool.not_eq_true] at hv
    simp [hv]
theorem two_len {α : Type} {l : List α} (h : (l.length : Int) = 2) : ∃ a b, l = [a, b] := by
  match l, h with
  | [a, b], _ => exact ⟨a, b, rfl⟩
  | [], h => simp at h
  | [a], h => simp at h
  | a :: b :: c :: l, h => simp at h; omega
theorem s_ReadIndex_ok {d : Divider_} {s : ByteArray} (hd : d.Circles.length ≤ 1048576) (hs : s.size ≤ 1048576) : ∃ r, s_ReadIndex_m d s = some r ∧ ((goodX d s r.1 ∧ r.2 = true) ∨ r = (⟨0, 0, 0⟩, false)) ∧ ∀ x, goodX d s x → r = (x, true) := by
  unfold s_ReadIndex_m
  have hl := tl_len s
  have e43 : s_l01Split_m s 43 = _ := s_l01Split_eq (c := 43) hs
  rw [e43, Option.bind_some]
  -- a good text is split so
  have good1 : ∀ x, goodX d s x → splitL 43 (tl s) = [tl (decB x.Turns), tl (decB x.Holes) ++ 47 :: tl (decB x.Circle)] := by
    intro x hx
    obtain ⟨p1, p2, p3⟩ := idx_pos hx.1
    have e := idxT_l x
    rw [hx.2] at e
    rw [e, splitL_app (no_plus p1.1 (by decide)), splitL_none]
    intro hm
    rcases List.mem_append.1 hm with h | h
    · exact no_plus p2.1 (by decide) h
    · rcases List.mem_cons.1 h with h | h
      · exact absurd h (by decide)
      · exact no_plus p3.1 (by decide) h
  by_cases h2 : (((splitL 43 (tl s)).map ba).length : Int) = 2
  · obtain ⟨a, b, hab⟩ := two_len (l := splitL 43 (tl s)) (by simpa using h2)
    have hsab := splitL_two hab
    have hla : a.length ≤ 1048576 ∧ b.length ≤ 1048576 := by
      have := congrArg List.length hsab
      simp at this; omega
    rw [if_neg (fun h => h h2), hab]
    have a1 : atI ([a, b].map ba) 1 = some (ba b) := rfl
    have a0 : atI ([a, b].map ba) 0 = some (ba a) := rfl
    rw [a1, Option.bind_some]
    have e47 : s_l01Split_m (ba b) 47 = _ := s_l01Split_eq (c := 47) (by rw [ba_size]; omega)
    rw [e47, Option.bind_some, tl_ba]
    by_cases h3 : (((splitL 47 b).map ba).length : Int) = 2
    · obtain ⟨u, v, huv⟩ := two_len (l := splitL 47 b) (by simpa using h3)
      have hbuv := splitL_two huv
      have hlu : u.length ≤ 1048576 ∧ v.length ≤ 1048576 := by
        have := congrArg List.length hbuv
        simp at this; omega
      rw [if_neg (fun h => h h3), huv]
      have b1 : atI ([u, v].map ba) 1 = some (ba v) := rfl
      have b0 : atI ([u, v].map ba) 0 = some (ba u) := rfl
      obtain ⟨⟨n1, m1, q1⟩, g1⟩ := s_l01Number_ok (p := ba a) (by rw [ba_size]; omega)
      obtain ⟨⟨n2, m2, q2⟩, g2⟩ := s_l01Number_ok (p := ba u) (by rw [ba_size]; omega)
      obtain ⟨⟨n3, m3, q3⟩, g3⟩ := s_l01Number_ok (p := ba v) (by rw [ba_size]; omega)
      rw [a0, Option.bind_some, m1, Option.bind_some, b0, Option.bind_some, m2, Option.bind_some, b1, Option.bind_some, m3, Option.bind_some, s_l24Index_eq (by omega)]
      have good2 : ∀ x, goodX d s x → n1 = (x.Turns, true) ∧ n2 = (x.Holes, true) ∧ n3 = (x.Circle, true) := by
        intro x hx
        obtain ⟨p1, p2, p3⟩ := idx_pos hx.1
        have e := good1 x hx
        rw [hab] at e
        simp only [List.cons.injEq, and_true] at e
        obtain ⟨rfl, rfl⟩ := e
        rw [splitL_app (no_plus p2.1 (by decide)), splitL_none (no_plus p3.1 (by decide))] at huv
        simp only [List.cons.injEq, and_true] at huv
        obtain ⟨rfl, rfl⟩ := huv
        have k1 := g1 x.Turns p1.1 p1.2 rfl
        have k2 := g2 x.Holes p2.1 p2.2 rfl
        have k3 := g3 x.Circle p3.1 p3.2 rfl
        rw [m1] at k1; rw [m2] at k2; rw [m3] at k3
        exact ⟨Option.some.inj k1, Option.some.inj k2, Option.some.inj k3⟩
      by_cases hall : n1.2 = true ∧ n2.2 = true ∧ n3.2 = true ∧ idxB d ⟨n1.1, n2.1, n3.1⟩ = true
      · obtain ⟨t1, t2, t3, t4⟩ := hall
        refine ⟨(⟨n1.1, n2.1, n3.1⟩, true), by simp [t1, t2, t3, t4], .inl ⟨⟨t4, ?_⟩, rfl⟩, fun x hx => ?_⟩
        · refine tl_inj ?_
          rw [idxT_l]
          dsimp only
          rw [(q1 t1).1, (q2 t2).1, (q3 t3).1, tl_ba, tl_ba, tl_ba, hsab, hbuv]
        · obtain ⟨z1, z2, z3⟩ := good2 x hx
          rw [z1, z2, z3]
      · refine ⟨(⟨0, 0, 0⟩, false), ?_, .inr rfl, fun x hx => ?_⟩
        · cases h1 : n1.2 <;> cases h2 : n2.2 <;> cases h3 : n3.2 <;> cases h4 : idxB d ⟨n1.1, n2.1, n3.1⟩ <;> simp_all
        · obtain ⟨z1, z2, z3⟩ := good2 x hx
          exact absurd ⟨by rw [z1], by rw [z2], by rw [z3], by rw [z1, z2, z3]; exact hx.1⟩ hall
    · rw [if_pos h3]
      refine ⟨(⟨0, 0, 0⟩, false), rfl, .inr rfl, fun x hx => ?_⟩
      exfalso
      obtain ⟨p1, p2, p3⟩ := idx_pos hx.1
      have e := good1 x hx
      rw [hab] at e
      simp only [List.cons.injEq, and_true] at e
      rw [e.2, splitL_app (no_plus p2.1 (by decide)), splitL_none (no_plus p3.1 (by decide))] at h3
      exact h3 rfl
  · rw [if_pos h2]
    refine ⟨(⟨0, 0, 0⟩, false), rfl, .inr rfl, fun x hx => ?_⟩
    exfalso
    rw [good1 x hx] at h2
    exact h2 rfl
theorem read_same {d : Divider_} {s : ByteArray} (hd : d.Circles.length ≤ 1048576) (hs : s.size ≤ 1048576) : ∃ r, i_ReadIndex_m d s = some r ∧ s_ReadIndex_m d s = some r := by
  obtain ⟨a, a1, a2, a3⟩ := i_ReadIndex_ok hd hs
  obtain ⟨b, b1, b2, b3⟩ := s_ReadIndex_ok hd hs
  refine ⟨a, a1, ?_⟩
  rw [b1]
  rcases a2 with ⟨a2, e⟩ | a2
  · rw [b3 _ a2, ← e]
  · rcases b2 with ⟨b2, e⟩ | b2
    · rw [a3 _ b2, ← e]
    · rw [a2, b2]
end Go.Proofs.YtjhadibjjldpdaaDoor
namespace Go.Proofs.YtjhadibjjldpdaaDoor
set_option linter.unusedVariables false
set_option maxRecDepth 100000
theorem min_eqM (a b : Int) : s_l00Min_m a b = some (min a b) := by unfold s_l00Min_m; split <;> (congr 1; omega)
def xOs (x : Index_) : Prop := (-1000000 ≤ x.Turns ∧ x.Turns ≤ 1000000) ∧ (-1000000 ≤ x.Holes ∧ x.Holes ≤ 1000000) ∧ -1000000 ≤ x.Circle ∧ x.Circle ≤ 1000000
theorem drawIndex_ok {n : Int} {s : L00Src_} {d : Divider_} (h : srcOk n s) (hn : n ≤ 1000000) (hd : d.Circles.length ≤ 1000000) : Ok (s_l24DrawIndex_b_m s d) (fun r => xOs r.1 ∧ srcOk (n + 20) r.2) := by
  unfold s_l24DrawIndex_b_m
  rw [s_l24Ok_eq (by omega), Option.bind_some]
  by_cases hv : divB d = true
  · rw [hv, if_neg (by decide)]
    obtain ⟨w1, w2, w3⟩ := divB_iff hv
    refine ok_bind (pick_ok h (by omega)) fun v2 h2 => ?_
    refine ok_bind (ok_atI h2.1 (by rcases h2.2.1 with q | q <;> omega)) fun v3 h3 => ?_
    have hc := w3 v3 h3.1
    have hp := prod_in (a := d.Worm) (b := v3) (A := 360) (B := 200) (by omega) w1.2 (by omega) hc.2
    rw [min_eqM, Option.bind_some]
    refine ok_bind (pick_ok h2.2.2.2 (by omega)) fun v5 h5 => ?_
    have h50 := h5.1
    have h51 := h5.2.2.1
    have e1 : w64 (1 + v5.1) = 1 + v5.1 := w64_in (by omega) (by omega)
    have e2 : (1 + v5.1).tdiv v3 = (1 + v5.1) / v3 := Int.tdiv_eq_ediv_of_nonneg (by omega)
    have e3 : (1 + v5.1).tmod v3 = (1 + v5.1) % v3 := Int.tmod_eq_emod_of_nonneg (by omega)
    have b1 : 0 ≤ (1 + v5.1) / v3 := Int.ediv_nonneg (by omega) (by omega)
    have b2 : (1 + v5.1) / v3 ≤ 1 + v5.1 := Int.ediv_le_self _ (by omega)
    have b3 := Int.emod_nonneg (1 + v5.1) (show v3 ≠ 0 by omega)
    have b4 := Int.emod_lt_of_pos (1 + v5.1) (show 0 < v3 by omega)
    unfold s_l24Make_m
    rw [chk_t (by omega), chk_t (by omega), e1, e2, e3, w64_in (x := (1 + v5.1) / v3) (by omega) (by omega), Option.bind_some]
    refine ok_bind (P := fun v => xOs v.2 ∧ srcOk (n + 20) v.1) ?_ fun v10 h10 => ok_some h10
    refine ok_bind (pick_ok h5.2.2.2 (by omega)) fun v7 h7 => ?_
    have h72 := h7.2.2.2
    have a1 : w64 (v3 - 1) = v3 - 1 := w64_in (by omega) (by omega)
    have a2 : w64 (d.Worm + 1) = d.Worm + 1 := w64_in (by omega) (by omega)
    have a3 : w64 (v3 + 1) = v3 + 1 := w64_in (by omega) (by omega)
    refine ok_ite (fun _ => ?_) fun _ => ?_
    · refine ok_bind (among_ok h72 (by omega) (by simp)) fun v8 h8 => ok_some ⟨⟨by dsimp only; omega, ?_, by dsimp only; omega⟩, srcOk_le h8.2 (by omega)⟩
      have := h8.1
      simp only [List.mem_cons, List.not_mem_nil, or_false, a1] at this
      dsimp only
      omega
    · refine ok_ite (fun _ => ?_) fun _ => ?_
      · refine ok_bind (among_ok h72 (by omega) (by simp)) fun v8 h8 => ok_some ⟨⟨?_, by dsimp only; omega, by dsimp only; omega⟩, srcOk_le h8.2 (by omega)⟩
        have := h8.1
        simp only [List.mem_cons, List.not_mem_nil, or_false, a2] at this
        dsimp only
        omega
      · refine ok_ite (fun _ => ok_some ⟨⟨by dsimp only; omega, by dsimp only; omega, ?_⟩, srcOk_le h72 (by omega)⟩) fun _ => ok_some ⟨⟨by dsimp only; omega, by dsimp only; omega, by dsimp only; omega⟩, srcOk_le h72 (by omega)⟩
        dsimp only; rw [a3]; omega
  · rw [Bool.not_eq_true] at hv
    rw [hv]
    exact ok_some ⟨⟨by dsimp only; omega, by dsimp only; omega, by dsimp only; omega⟩, srcOk_le h (by omega)⟩
theorem drawHoles_ok {c : List Int} (h1 : c.length ≤ 1000000) (h2 : ∀ b ∈ c, 0 ≤ b ∧ b ≤ 255) : Ok (s_DrawHolesAfter_m c) (fun r => r.1.Circles.length ≤ 50 ∧ -1 ≤ r.2.2 ∧ r.2.2 ≤ 1000000001) := by
  unfold s_DrawHolesAfter_m
  refine ok_bind (from_ok h1 h2) fun v1 q1 => ?_
  refine ok_bind (l24Bent_ok q1 (by omega)) fun v2 q2 => ?_
  refine ok_bind (drawIndex_ok q2.2 (by omega) (by have := q2.1; omega)) fun v3 q3 => ?_
  refine ok_bind (pick_ok q3.2 (by omega)) fun v4 q4 => ?_
  refine ok_bind (P := fun v => -1 ≤ v ∧ v ≤ 1000000001) ?_ fun v7 q7 => ok_some ⟨q2.1, q7⟩
  refine ok_bind (one_ok q4.2.2.2 (by omega)) fun v5 q5 => ?_
  refine ok_ite (fun _ => ?_) fun _ => ok_some (by have := q4.1; have := q4.2.2.1; omega)
  refine ok_bind (among_ok q5 (by omega) (by simp)) fun v6 q6 => ok_some ?_
  have := q6.1
  simp only [List.mem_cons, List.not_mem_nil, or_false] at this
  omega
theorem ext_size (p : ByteArray) (i j : Nat) : (p.extract i j).size ≤ p.size := by
  rw [← tl_len, tl_ext, ← tl_len p]; simp; omega
theorem spoil_ok {n : Int} {s : L00Src_} {t : ByteArray} (h : srcOk n s) (hn : n ≤ 1000000) (ht : t.size ≤ 1000) : Ok (s_l01Spoil_b_m s t) (fun r => r.1.size ≤ 4000) := by
  unfold s_l01Spoil_b_m
  refine ok_bind (P := fun v => v.1.size ≤ 4000) ?_ fun v12 h12 => ok_some h12
  refine ok_bind (pick_ok h (by omega)) fun v1 h1 => ?_
  have h11 := h1.2.2.2
  refine ok_ite (fun _ => ?_) fun _ => ?_
  · refine ok_bind (pick_ok h11 (by omega)) fun v2 h2 => ?_
    have e : w64 ((t.size : Int) + 1) = (t.size : Int) + 1 := w64_in (by omega) (by omega)
    rw [e] at h2
    have h20 := h2.1
    have h21 : v2.1 ≤ t.size := by rcases h2.2.1 with q | q <;> omega
    refine ok_chk (by omega) (ok_chk (by omega) ?_)
    refine ok_bind (text_ok h2.2.2.2 (by omega) (by simp)) fun v5 h5 => ?_
    have hs5 : v5.1.size = 1 := by
      have := h5.1
      simp only [List.mem_cons, List.not_mem_nil, or_false] at this
      rcases this with e | e | e | e | e | e | e <;> rw [e] <;> rfl
    have x1 := ext_size t (0 : Int).toNat v2.1.toNat
    have x2 := ext_size t v2.1.toNat (t.size : Int).toNat
    refine ok_chk (by omega) (ok_chk (by rw [ByteArray.size_append]; omega) (ok_some ?_))
    rw [ByteArray.size_append, ByteArray.size_append]; omega
  · refine ok_ite (fun _ => ?_) fun _ => ok_some (by dsimp only; omega)
    refine ok_ite (fun ht0 => ?_) fun _ => ok_some (by dsimp only; omega)
    have hpos : 0 < t.size := by
      rcases Nat.eq_zero_or_pos t.size with q | q
      · exact absurd (tl_inj (List.eq_nil_of_length_eq_zero (by rw [tl_len, q]))) ht0
      · exact q
    refine ok_bind (pick_ok h11 (by omega)) fun v8 h8 => ?_
    have h80 := h8.1
    have h81 : v8.1 < t.size := by rcases h8.2.1 with q | q <;> omega
    have e : w64 (v8.1 + 1) = v8.1 + 1 := w64_in (by omega) (by omega)
    rw [e]
    have x1 := ext_size t (0 : Int).toNat v8.1.toNat
    have x2 := ext_size t (v8.1 + 1).toNat (t.size : Int).toNat
    refine ok_chk (by omega) (ok_chk (by omega) (ok_chk (by omega) (ok_some ?_)))
    rw [ByteArray.size_append]; omega
theorem drawRead_ok {c : List Int} (h1 : c.length ≤ 1000000) (h2 : ∀ b ∈ c, 0 ≤ b ∧ b ≤ 255) : Ok (s_DrawReadIndex_m c) (fun r => r.1.Circles.length ≤ 50 ∧ r.2.size ≤ 4000) := by
  unfold s_DrawReadIndex_m
  refine ok_bind (from_ok h1 h2) fun v1 q1 => ?_
  refine ok_bind (l24Bent_ok q1 (by omega)) fun v2 q2 => ?_
  refine ok_bind (drawIndex_ok q2.2 (by omega) (by have := q2.1; omega)) fun v3 q3 => ?_
  obtain ⟨x1, x2, x3⟩ := q3.1
  have o1 : osI v3.1.Turns := ⟨by omega, by omega⟩
  have o2 : osI v3.1.Holes := ⟨by omega, by omega⟩
  have o3 : osI v3.1.Circle := ⟨by omega, by omega⟩
  rw [s_l24Text_eq o1 o2 o3, Option.bind_some]
  have hs : (idxT v3.1).size ≤ 1000 := by
    have s1 := decB_size o1
    have s2 := decB_size o2
    have s3 := decB_size o3
    unfold idxT
    have p1 : plusB.size = 1 := rfl
    have p2 : slashB.size = 1 := rfl
    simp only [ba_sz]
    omega
  exact ok_bind (spoil_ok q3.2 (by omega) hs) fun v5 q5 => ok_some ⟨q2.1, q5⟩
def holesR (d : Divider_) (x : Index_) (k : Int) : Int × Int := if idxB d x = true then (if btw k 0 1000000000 = true then (k * stepX x % (d.Worm * x.Circle), 0) else (0, 2)) else (0, 1)
def closeR (d : Divider_) (x : Index_) : Int × Int := if idxB d x = true then (d.Worm * x.Circle / (Int.gcd (d.Worm * x.Circle) (stepX x) : Int), 0) else (0, 1)
theorem idx_wrap {d : Divider_} {x : Index_} (h : idxB d x = true) : w64 (w64 (x.Turns * x.Circle) + x.Holes) = stepX x ∧ w64 (d.Worm * x.Circle) = d.Worm * x.Circle ∧ 2 ≤ d.Worm * x.Circle ∧ d.Worm * x.Circle ≤ 72000 ∧ 1 ≤ stepX x ∧ stepX x ≤ d.Worm * x.Circle := by
  have h' := h
  unfold idxB at h'
  simp only [Bool.and_eq_true] at h'
  obtain ⟨h1, h2, h3, h4, _⟩ := h'
  have t := idx_tail h1 h2 h3 h4
  obtain ⟨_, c1, _, _, s1, s2⟩ := idxB_iff h
  have w := (divB_iff h1).1
  have p := prod_in (a := d.Worm) (b := x.Circle) (A := 360) (B := 200) (by omega) w.2 (by omega) c1.2
  have p2 : 2 ≤ d.Worm * x.Circle := by
    have := Int.mul_le_mul w.1 c1.1 (by omega) (by omega)
    omega
  exact ⟨t.1, t.2.1, p2, by omega, s1, s2⟩
theorem holes_in {k a W : Int} (k0 : 0 ≤ k) (k1 : k ≤ 1000000000) (a0 : 1 ≤ a) (a1 : a ≤ 72000) (hW : 2 ≤ W) : w64 (k * a) = k * a ∧ (k * a).tmod W = k * a % W := by
  have p := prod_in (a := k) (b := a) (A := 1000000000) (B := 72000) k0 k1 (by omega) a1
  exact ⟨w64_in (by omega) (by omega), Int.tmod_eq_emod_of_nonneg p.1⟩
theorem i_HolesAfter_eq {d : Divider_} {x : Index_} {k : Int} (hd : d.Circles.length ≤ 9223372036854775807) : i_HolesAfter_m d x k = some (holesR d x k) := by
  unfold i_HolesAfter_m holesR i_stepOf_m
  rw [i_ValidIndex_eq hd, Option.bind_some, i_within_eq, Option.bind_some, Option.bind_some]
  cases hv : idxB d x
  · rfl
  · obtain ⟨e1, e2, w1, w2, s1, s2⟩ := idx_wrap hv
    simp only [Bool.not_true, Bool.false_eq_true, if_false, if_true]
    cases hb : btw k 0 1000000000
    · rfl
    · have hk : 0 ≤ k ∧ k ≤ 1000000000 := of_decide_eq_true hb
      obtain ⟨g1, g2⟩ := holes_in hk.1 hk.2 s1 (by omega) w1
      simp only [Bool.not_true, Bool.false_eq_true, if_false, if_true, e1, e2, g1, g2]
      rw [chk_t (by omega)]
theorem s_HolesAfter_eq {d : Divider_} {x : Index_} {k : Int} (hd : d.Circles.length ≤ 9223372036854775807) : s_HolesAfter_m d x k = some (holesR d x k) := by
  unfold s_HolesAfter_m holesR s_l24Step_m
  rw [s_l24Index_eq hd, Option.bind_some, s_l00In_eq, Option.bind_some, Option.bind_some]
  cases hv : idxB d x
  · rfl
  · obtain ⟨e1, e2, w1, w2, s1, s2⟩ := idx_wrap hv
    simp only [Bool.not_true, Bool.false_eq_true, if_false, if_true]
    cases hb : btw k 0 1000000000
    · rfl
    · have hk : 0 ≤ k ∧ k ≤ 1000000000 := of_decide_eq_true hb
      obtain ⟨g1, g2⟩ := holes_in hk.1 hk.2 s1 (by omega) w1
      simp only [Bool.not_true, Bool.false_eq_true, if_false, if_true, e1, e2, g1, g2]
      rw [chk_t (by omega)]
theorem gcdW {W S : Int} (hW : 2 ≤ W) (hW2 : W ≤ 72000) (hS : 1 ≤ S) : 1 ≤ (Int.gcd W S : Int) ∧ (Int.gcd W S : Int) ≤ W ∧ W.tdiv (Int.gcd W S : Int) = W / (Int.gcd W S : Int) ∧ 1 ≤ W / (Int.gcd W S : Int) ∧ W / (Int.gcd W S : Int) ≤ W := by
  have g0 : 0 < Int.gcd W S := Int.gcd_pos_of_ne_zero_left _ (by omega)
  have gd : (Int.gcd W S : Int) ∣ W := Int.gcd_dvd_left ..
  have gl := Int.le_of_dvd (by omega) gd
  refine ⟨by omega, gl, Int.tdiv_eq_ediv_of_nonneg (by omega), ?_, Int.ediv_le_self _ (by omega)⟩
  exact (Int.le_ediv_iff_mul_le (by omega)).2 (by omega)
theorem i_ClosesAfter_eq {d : Divider_} {x : Index_} (hd : d.Circles.length ≤ 9223372036854775807) : i_ClosesAfter_m d x = some (closeR d x) := by
  unfold i_ClosesAfter_m closeR i_stepOf_m
  rw [i_ValidIndex_eq hd, Option.bind_some, Option.bind_some]
  cases hv : idxB d x
  · rfl
  · obtain ⟨e1, e2, w1, w2, s1, s2⟩ := idx_wrap hv
    obtain ⟨g1, g2, g3, g4, g5⟩ := gcdW w1 w2 s1
    simp only [Bool.not_true, Bool.false_eq_true, if_false, if_true, e1, e2]
    rw [i_gcd_eq ⟨by omega, by omega⟩ (by omega) ⟨by omega, by omega⟩ (by omega), Option.bind_some, chk_t (by omega), g3, w64_in (by omega) (by omega)]
theorem s_ClosesAfter_eq {d : Divider_} {x : Index_} (hd : d.Circles.length ≤ 9223372036854775807) : s_ClosesAfter_m d x = some (closeR d x) := by
  unfold s_ClosesAfter_m closeR s_l24Step_m
  rw [s_l24Index_eq hd, Option.bind_some, Option.bind_some]
  cases hv : idxB d x
  · rfl
  · obtain ⟨e1, e2, w1, w2, s1, s2⟩ := idx_wrap hv
    obtain ⟨g1, g2, g3, g4, g5⟩ := gcdW w1 w2 s1
    simp only [Bool.not_true, Bool.false_eq_true, if_false, if_true, e1, e2]
    rw [s_l02Gcd_eq (by omega) (by omega) (by omega), Option.bind_some, chk_t (by omega), g3, w64_in (by omega) (by omega)]
theorem close_zero {W S : Int} (hW : 2 ≤ W) (hS : 1 ≤ S) : W / (Int.gcd W S : Int) * S % W = 0 := by
  obtain ⟨r, hr⟩ : (Int.gcd W S : Int) ∣ W := Int.gcd_dvd_left ..
  obtain ⟨q, hq⟩ : (Int.gcd W S : Int) ∣ S := Int.gcd_dvd_right ..
  have g0 : 0 < Int.gcd W S := Int.gcd_pos_of_ne_zero_left _ (by omega)
  generalize hg : (Int.gcd W S : Int) = g at *
  have hg0 : 0 < g := by omega
  have e : W / g = r := by rw [hr]; exact Int.mul_ediv_cancel_left _ (by omega)
  rw [e]
  refine Int.emod_eq_zero_of_dvd ⟨q, ?_⟩
  rw [hr]
  conv => lhs; rw [hq]
  grind
theorem close_first {W S b : Int} (hW : 2 ≤ W) (hS : 1 ≤ S) (b0 : 0 < b) (b1 : b < W / (Int.gcd W S : Int)) : b * S % W ≠ 0 := by
  intro h
  have hd : W ∣ b * S := Int.dvd_of_emod_eq_zero h
  obtain ⟨w, rfl⟩ : ∃ w : Nat, W = w := ⟨W.toNat, by omega⟩
  obtain ⟨s, rfl⟩ : ∃ s : Nat, S = s := ⟨S.toNat, by omega⟩
  obtain ⟨c, rfl⟩ : ∃ c : Nat, b = c := ⟨b.toNat, by omega⟩
  have hn : w ∣ c * s := by
    have : ((w : Nat) : Int) ∣ ((c * s : Nat) : Int) := by push_cast; exact hd
    exact Int.natCast_dvd_natCast.1 this
  have hg : Int.gcd (w : Int) (s : Int) = Nat.gcd w s := rfl
  rw [hg] at b1
  have hb1 : c < w / Nat.gcd w s := by
    have : ((w / Nat.gcd w s : Nat) : Int) = (w : Int) / ((Nat.gcd w s : Nat) : Int) := by simp
    omega
  have g0 : 0 < Nat.gcd w s := Nat.gcd_pos_of_pos_left _ (by omega)
  have hc : Nat.Coprime (w / Nat.gcd w s) (s / Nat.gcd w s) := Nat.coprime_div_gcd_div_gcd g0
  obtain ⟨r, hr⟩ := Nat.gcd_dvd_left w s
  obtain ⟨q, hq⟩ := Nat.gcd_dvd_right w s
  generalize hgg : Nat.gcd w s = g at *
  have e1 : w / g = r := by rw [hr]; exact Nat.mul_div_cancel_left _ g0
  have e2 : s / g = q := by rw [hq]; exact Nat.mul_div_cancel_left _ g0
  rw [e1] at hb1 hc
  rw [e2] at hc
  have hd2 : r ∣ c * q := by
    rw [hr, hq] at hn
    have : g * r ∣ g * (c * q) := by rw [show g * (c * q) = c * (g * q) by grind]; exact hn
    exact Nat.dvd_of_mul_dvd_mul_left g0 this
  have := Nat.le_of_dvd (by omega) (hc.dvd_of_dvd_mul_right hd2)
  omega
theorem parts_sum {W S k p : Int} : (p * S % W + (k - p) * S % W) % W = k * S % W := by
  rw [← Int.add_emod, ← Int.add_mul]
  congr 2; omega
theorem s_ValidIndex_eqM {d : Divider_} {x : Index_} (hd : d.Circles.length ≤ 9223372036854775807) : s_ValidIndex_m d x = some (idxB d x) := by
  unfold s_ValidIndex_m
  rw [s_l24Index_eq hd]; rfl
theorem law_motions (p0 : List Int) (k0 : osL osU8 p0) : l_FnMotions_m p0 = some true := by
  unfold l_FnMotions_m l_f6big_m
  rw [Option.bind_some]
  by_cases hb : 4096 < (p0.length : Int)
  · rw [if_pos (by simpa using hb)]
  · rw [if_neg (by simpa using hb)]
    have h2 : ∀ b ∈ p0, 0 ≤ b ∧ b ≤ 255 := k0.2
    obtain ⟨⟨d, x, k⟩, e1, q1, q2, q3⟩ := drawHoles_ok (c := p0) (by omega) h2
    obtain ⟨⟨e, t⟩, f1, t1, t2⟩ := drawRead_ok (c := p0) (by omega) h2
    dsimp only at q1 q2 q3 t1 t2
    obtain ⟨rr, r1, r2⟩ := read_same (d := e) (s := t) (by omega) (by omega)
    have hd : d.Circles.length ≤ 9223372036854775807 := by omega
    rw [e1, f1]
    simp only [Option.bind_some, i_HolesAfter_eq hd, s_HolesAfter_eq hd, i_ClosesAfter_eq hd, s_ClosesAfter_eq hd, r1, r2, i_IndexText_eq hd, s_IndexText_eq hd, i_ValidIndex_eq hd, s_ValidIndex_eqM hd, ne_eq, not_true_eq_false, if_false, bne_self_eq_false, Bool.false_eq_true]
    by_cases hz : (holesR d x k).2 = 0
    · rw [if_neg (by simp [hz])]
      have hv : idxB d x = true := by
        cases h : idxB d x with
        | true => rfl
        | false => unfold holesR at hz; rw [h] at hz; simp at hz
      have hk : btw k 0 1000000000 = true := by
        cases h : btw k 0 1000000000 with
        | true => rfl
        | false => unfold holesR at hz; rw [hv, h] at hz; simp at hz
      have hk' : 0 ≤ k ∧ k ≤ 1000000000 := of_decide_eq_true hk
      obtain ⟨w0, w00, w1, w2, s1, s2⟩ := idx_wrap hv
      obtain ⟨g1, g2, g3, g4, g5⟩ := gcdW w1 w2 s1
      have hR : ∀ j, 0 ≤ j → j ≤ 1000000000 → holesR d x j = (j * stepX x % (d.Worm * x.Circle), 0) := fun j j0 j1 => by
        unfold holesR
        rw [if_pos hv, if_pos (show btw j 0 1000000000 = true from decide_eq_true ⟨j0, j1⟩)]
      have hC : closeR d x = (d.Worm * x.Circle / (Int.gcd (d.Worm * x.Circle) (stepX x) : Int), 0) := by unfold closeR; rw [if_pos hv]
      obtain ⟨u1, a1, b1, _⟩ := roll_ok (c := p0) (by omega) h2 2401
      have c1 : w64 (k + 1) = k + 1 := w64_in (by omega) (by omega)
      obtain ⟨⟨part, u2⟩, a2, b2, b3, _⟩ := below_ok (s := u1) b1 (by omega) (k := k + 1) (by omega)
      dsimp only at b2 b3
      obtain ⟨u3, a3, b4, b5⟩ := roll_ok (c := p0) (by omega) h2 2402
      obtain ⟨⟨bef, u4⟩, a4, b6, b7, _⟩ := below_ok (s := u3) b4 (by omega) (k := (closeR d x).1) (by rw [hC]; exact g4)
      rw [hC] at b7 a4
      dsimp only at b6 b7 a4
      have c2 : w64 (k - part) = k - part := w64_in (by omega) (by omega)
      rw [a1, Option.bind_some, c1, a2, Option.bind_some, a3]
      simp only [Option.bind_some, hC, a4, c2, hR k hk'.1 hk'.2, hR part b2 (by omega), hR (k - part) (by omega) (by omega), hR (d.Worm * x.Circle / (Int.gcd (d.Worm * x.Circle) (stepX x) : Int)) (by omega) (by omega), hR bef b6 (by omega), if_true, w00]
      have n1 := Int.emod_nonneg (part * stepX x) (show d.Worm * x.Circle ≠ 0 by omega)
      have n2 := Int.emod_lt_of_pos (part * stepX x) (show 0 < d.Worm * x.Circle by omega)
      have n3 := Int.emod_nonneg ((k - part) * stepX x) (show d.Worm * x.Circle ≠ 0 by omega)
      have n4 := Int.emod_lt_of_pos ((k - part) * stepX x) (show 0 < d.Worm * x.Circle by omega)
      rw [chk_t (by omega), w64_in (x := _ + _) (by omega) (by omega), Int.tmod_eq_emod_of_nonneg (by omega), parts_sum, if_pos rfl, close_zero w1 s1, if_pos rfl]
      by_cases hb0 : bef = 0
      · rw [if_pos hb0]
      · rw [if_neg hb0]
        have := close_first w1 s1 (show 0 < bef by omega) b7
        simp [this]
    · rw [if_pos hz]
end Go.Proofs.YtjhadibjjldpdaaDoor
namespace Go.Proofs.YtjhadibjjldpdaaDoor
open Go.ChangeShapes Go.WideShapes Go.ChangeAt Go.RowKit
set_option linter.unusedVariables false
set_option maxRecDepth 100000
theorem var_block {W : World} {n : String} {g : Nat} {cs : Array Value} (hg : Tryd.prog.globalNamed n = some g) (h : W.var? Tryd.prog n = some cs) : ∃ t f, W.heap[g]? = some (.cells cs t f) ∧ g < W.heap.size := by
  unfold World.var? at h
  rw [hg] at h
  simp only [Option.bind_some] at h
  split at h
  · rename_i cs' t f hh
    cases h
    exact ⟨t, f, hh, (Array.getElem?_eq_some_iff.1 hh).1⟩
  · cases h
def litV : DataW Unit → Value
  | .lit (.int k z) => .int k z
  | _ => .bool false
def valsOf : DataW Unit → Array Value
  | .agg l => (l.map litV).toArray
  | _ => #[]
def putV (cs : Array Value) : Obj → Obj
  | .cells _ t f => .cells cs t f
  | o => o
theorem pow_tab : (Rows.laid_internal_strconv_uint64pow10 : DataW Unit) = Lib.tabData .u64 Lib.pow10Tab := by kernel_rfl
def laidList : List (String × DataW Unit) := [("math/bits.deBruijn32tab", Rows.laid_math_bits_deBruijn32tab), ("math/bits.deBruijn64tab", Rows.laid_math_bits_deBruijn64tab), ("internal/strconv.uint64pow10", Rows.laid_internal_strconv_uint64pow10), ("strconv.ErrRange", Rows.laid_strconv_ErrRange), ("strconv.ErrSyntax", Rows.laid_strconv_ErrSyntax)]
theorem tab_named : Tryd.prog.globalNamed "internal/strconv.uint64pow10" = some 3 := by kernel_rfl
theorem glob_tab {W : World} {rest : List (String × DataW Unit)} (h : laidMet Tryd.prog (("internal/strconv.uint64pow10", Rows.laid_internal_strconv_uint64pow10) :: rest) W) :
    (fun b => b < W.heap.size) 3 ∧ (tabG 3 (Lib.pow10Tab.map fun z => Value.int .u64 z)).p W := by
  rw [pow_tab] at h
  have := Lib.tabIs_of_head (t := 134) (e := 48) (n := 20) tab_named (by kernel_rfl) Tryd.underlying134 Tryd.underlying48 (by kernel_rfl) (by kernel_rfl) h
  obtain ⟨t, f, h1, h2⟩ := var_block tab_named this
  exact ⟨h2, t, f, h1⟩
theorem star_err : "*" ++ "errors.errorString" = "*errors.errorString" := by decide
theorem only_err (u : TypeId) (h : Tryd.prog.typeName? 3 u = some "*errors.errorString") : u = 139 :=
  typeName_ptr_named (nm := "errors.errorString") (by rw [star_err]; kernel_rfl) (by kernel_rfl) (by decide) u (by rw [star_err]; exact h)
theorem err_here {n nm : String} {text : List UInt8} {rest : List (String × DataW Unit)} {W : World} {g : Nat} {ti tp te ts : TypeId} {ms : Array (String × TypeId)} {f : Field} (h : laidMet Tryd.prog ((n, .iface nm (.ptr (.agg [.lit (.string text)]))) :: rest) W)
    (hg : Tryd.prog.globalNamed n = some g) (ht : (Tryd.prog.globals[g]?).map (·.type) = some ti) (hi : Tryd.prog.underlying ti = some (.interface ms)) (hrow : ∀ u, Tryd.prog.typeName? 3 u = some nm → u = tp)
    (hp : Tryd.prog.underlying tp = some (.pointer te)) (he : Tryd.prog.underlying te = some (.struct #[f])) (hft : f.type = ts) (hfo : f.offset = 0) (hs : Tryd.prog.underlying ts = some .string) (hc : Tryd.prog.cellsOf te = 1) (hcs : Tryd.prog.cellsOf ts = 1) :
    (fun b => b < W.heap.size) g ∧ (errG g).p W := by
  obtain ⟨a, s, h1, _⟩ := laid_sentinel h hg ht hi hrow hp he hft hfo hs hc hcs
  obtain ⟨t, f, h2, h3⟩ := var_block hg h1
  exact ⟨h3, tp, .pointer (some a), t, f, h2⟩
theorem glob_of_laid {W : World} (h : laidMet Tryd.prog laidList W) : Glob (fun b => b < W.heap.size) W := by
  intro x hx
  simp only [globs, List.mem_cons, List.not_mem_nil, or_false] at hx
  rcases hx with rfl | rfl | rfl
  · exact glob_tab h.tail.tail
  · exact err_here (ti := 94) (tp := 139) (te := 141) h.tail.tail.tail (by kernel_rfl) (by kernel_rfl) Tryd.underlying94 (fun u hu => only_err u hu) (by kernel_rfl) Tryd.underlying141 rfl rfl (by kernel_rfl) (by kernel_rfl) (by kernel_rfl)
  · exact err_here (ti := 94) (tp := 139) (te := 141) h.tail.tail.tail.tail (by kernel_rfl) (by kernel_rfl) Tryd.underlying94 (fun u hu => only_err u hu) (by kernel_rfl) Tryd.underlying141 rfl rfl (by kernel_rfl) (by kernel_rfl) (by kernel_rfl)
def textOf : DataW Unit → Value
  | .iface _ (.ptr (.agg [.lit (.string t)])) => .string ⟨t.toArray⟩
  | _ => .bool false
noncomputable def laidWorld (os : Os) : World :=
  let w0 := World.holding Tryd.prog os ⟨#[], #[], []⟩
  let h1 := ((w0.heap.modify 4 (putV (valsOf Rows.laid_math_bits_deBruijn32tab))).modify 5 (putV (valsOf Rows.laid_math_bits_deBruijn64tab))).modify 3 (putV (valsOf Rows.laid_internal_strconv_uint64pow10))
  let b := h1.size
  { w0 with heap := (((h1.push (.cells #[textOf Rows.laid_strconv_ErrRange] 141)).push (.cells #[textOf Rows.laid_strconv_ErrSyntax] 141)).modify 2 (putV #[.iface 139 (.pointer (some ⟨b, 0, none⟩))])).modify 1 (putV #[.iface 139 (.pointer (some ⟨b + 1, 0, none⟩))]) }
theorem laidWorld_met (os : Os) (args : Array Value) : laidMet Tryd.prog laidList ((laidWorld os).forCall (fun _ _ => 0) ⟨#[], args, []⟩).memory :=
  laidMet_of_run' 8 (by kernel_rfl) (by kernel_rfl)
end Go.Proofs.YtjhadibjjldpdaaDoor
