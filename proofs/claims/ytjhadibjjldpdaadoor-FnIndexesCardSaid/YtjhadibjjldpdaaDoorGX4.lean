/- Texts of this claim, one behind the other (merged by a program of mine). -/
import Derived.Lib.ItoaLen
import Derived.Test.YtjhadibjjldpdaaDoorTie
import Derived.Lib.LaidTab
import Derived.Stop.LaidErr
import Derived.SevenTiedAt
import Derived.Test.YtjhadibjjldpdaaDoorGX3
set_option linter.unusedSimpArgs false
set_option linter.unusedVariables false
namespace Go.Proofs.YtjhadibjjldpdaaDoor
set_option linter.unusedVariables false
set_option maxRecDepth 100000
def decB (n : Int) : ByteArray := ⟨(Lib.itoa n).toArray⟩
theorem decB_size {n : Int} (h : osI n) : (decB n).size ≤ 21 := by
  have := Lib.itoa_length_le n h.1 h.2
  simpa [decB, ByteArray.size] using this
def dgs (u : Nat) : List Int := if h : u = 0 then [] else dgs (u / 10) ++ [48 + ((u % 10 : Nat) : Int)]
termination_by u
decreasing_by omega
theorem dgs_zero : dgs 0 = [] := by rw [dgs, dif_pos rfl]
theorem dgs_pos {u : Nat} (h : u ≠ 0) : dgs u = dgs (u / 10) ++ [48 + ((u % 10 : Nat) : Int)] := by rw [dgs, dif_neg h]
theorem u8_dig (d : Nat) (h : d < 10) : UInt8.ofNat (48 + (d : Int)).toNat = 48 + UInt8.ofNat d := by
  rw [show (48 + (d : Int)).toNat = 48 + d by omega, UInt8.ofNat_add]
  rfl
theorem dgs_dec : ∀ (u : Nat), u ≠ 0 → (strOfNums (dgs u)).data.toList = Lib.decDigits u := by
  intro u
  induction u using Nat.strongRecOn with
  | _ u ih =>
    intro h
    rw [dgs_pos h, Lib.decDigits]
    by_cases h1 : u < 10
    · rw [dif_pos h1, show u / 10 = 0 by omega, dgs_zero, show u % 10 = u by omega]
      simp [strOfNums]
      exact u8_dig u (by omega)
    · rw [dif_neg h1, ← ih (u / 10) (by omega) (by omega)]
      simp [strOfNums]
      exact u8_dig (u % 10) (by omega)
theorem dgs_len : ∀ (k u : Nat), u < 10 ^ k → (dgs u).length ≤ k
  | 0, u, h => by
    have : u = 0 := by simpa using h
    subst this
    rw [dgs_zero]; exact Nat.le_refl _
  | k + 1, u, h => by
    by_cases h0 : u = 0
    · subst h0; rw [dgs_zero]; exact Nat.zero_le _
    · rw [dgs_pos h0, List.length_append]
      have := dgs_len k (u / 10) (by rw [Nat.pow_succ] at h; omega)
      simp; omega
theorem i_Decimal_eq {n : Int} (hn : osI n) : i_Decimal_m n = some (decB n) := by
  unfold i_Decimal_m strconv_FormatInt_m
  rw [chk_t ⟨hn.1, hn.2, rfl⟩]
  rfl
end Go.Proofs.YtjhadibjjldpdaaDoor
namespace Go.Proofs.YtjhadibjjldpdaaDoor
set_option linter.unusedVariables false
set_option maxRecDepth 100000
abbrev tl (s : ByteArray) : List UInt8 := s.data.toList
def ba (l : List UInt8) : ByteArray := ⟨l.toArray⟩
theorem tl_ba (l : List UInt8) : tl (ba l) = l := rfl
theorem ba_tl (s : ByteArray) : ba (tl s) = s := rfl
theorem tl_inj {a b : ByteArray} (h : tl a = tl b) : a = b := by rw [← ba_tl a, ← ba_tl b, h]
theorem ba_size (l : List UInt8) : (ba l).size = l.length := by simp [ba, ByteArray.size]
theorem tl_len (s : ByteArray) : (tl s).length = s.size := by show s.data.toList.length = s.data.size; rw [Array.length_toList]
theorem tl_app (a b : ByteArray) : tl (a ++ b) = tl a ++ tl b := by show (a ++ b).data.toList = _; rw [ByteArray.data_append, Array.toList_append]
theorem tl_ext (s : ByteArray) (i j : Nat) : tl (s.extract i j) = ((tl s).take j).drop i := by
  simp [tl, ByteArray.data_extract, Array.toList_extract, List.extract_eq_take_drop]
  try rw [List.drop_take]
theorem dig1 (d : Nat) (h : d < 10) : (UInt8.ofNat (48 + d)).toNat = 48 + d := by
  simp [UInt8.toNat_ofNat']; omega
theorem dec_digits : ∀ (u : Nat), ∀ b ∈ Lib.decDigits u, 48 ≤ b.toNat ∧ b.toNat ≤ 57 := by
  intro u
  induction u using Nat.strongRecOn with
  | _ u ih =>
    intro b hb
    rw [Lib.decDigits] at hb
    by_cases h1 : u < 10
    · rw [dif_pos h1, List.mem_singleton] at hb
      subst hb
      rw [dig1 u h1]; omega
    · rw [dif_neg h1, List.mem_append, List.mem_singleton] at hb
      rcases hb with hb | rfl
      · exact ih (u / 10) (by omega) b hb
      · rw [dig1 _ (by omega)]; omega
def valL (a : Nat) (l : List UInt8) : Nat := l.foldl (fun a b => a * 10 + (b.toNat - 48)) a
theorem valL_app (a : Nat) (l m : List UInt8) : valL a (l ++ m) = valL (valL a l) m := by simp [valL]
theorem valL_dec : ∀ (u : Nat), valL 0 (Lib.decDigits u) = u := by
  intro u
  induction u using Nat.strongRecOn with
  | _ u ih =>
    rw [Lib.decDigits]
    by_cases h1 : u < 10
    · rw [dif_pos h1]
      simp only [valL, List.foldl_cons, List.foldl_nil, dig1 u h1]; omega
    · rw [dif_neg h1, valL_app, ih (u / 10) (by omega)]
      simp only [valL, List.foldl_cons, List.foldl_nil, dig1 (u % 10) (by omega)]; omega
theorem valL_ge : ∀ (l : List UInt8) (a : Nat), a ≤ valL a l
  | [], a => Nat.le_refl _
  | b :: l, a => by
    have := valL_ge l (a * 10 + (b.toNat - 48))
    have e : valL a (b :: l) = valL (a * 10 + (b.toNat - 48)) l := rfl
    omega
theorem dec_len {u : Nat} (h : u < 1000000000000000000) : 1 ≤ (Lib.decDigits u).length ∧ (Lib.decDigits u).length ≤ 18 := by
  by_cases h0 : u = 0
  · subst h0; rw [Lib.decDigits]; simp
  · have e := congrArg List.length (dgs_dec u h0)
    have l := dgs_len 18 u (by omega)
    have p : (dgs u).length ≠ 0 := by rw [dgs_pos h0]; simp
    have e2 : (strOfNums (dgs u)).data.toList.length = (dgs u).length := by simp [strOfNums]
    omega
theorem parse_val {M : Nat} (hM : 18446744073709551615 ≤ M) : ∀ (l : List UInt8) (a : Nat), (∀ b ∈ l, 48 ≤ b.toNat ∧ b.toNat ≤ 57) → valL a l < 1844674407370955162 → Lib.parseUintM M a l = .ok (valL a l)
  | [], a, _, _ => rfl
  | b :: l, a, h, hv => by
    have hb := h b (by simp)
    have e : valL a (b :: l) = valL (a * 10 + (b.toNat - 48)) l := rfl
    have g := valL_ge l (a * 10 + (b.toNat - 48))
    rw [Lib.parseUintM, if_pos hb, if_neg (by omega), if_neg (by omega), parse_val hM l _ (fun c hc => h c (by simp [hc])) (by omega), e]
theorem decB_nat {n : Int} (h0 : 0 ≤ n) : tl (decB n) = Lib.decDigits n.toNat := by
  show (Lib.itoa n) = _
  rw [Lib.itoa, if_neg (by omega)]
theorem readD_dec {n : Int} (h0 : 0 ≤ n) (h1 : n < 1000000000000000000) : readD (decB n) = (n, true) := by
  have e := decB_nat h0
  have hl := dec_len (u := n.toNat) (by omega)
  have hd := dec_digits n.toNat
  have hv := valL_dec n.toNat
  obtain ⟨c, r, hcr⟩ : ∃ c r, Lib.decDigits n.toNat = c :: r := by
    cases h : Lib.decDigits n.toNat with
    | nil => rw [h] at hl; simp at hl
    | cons c r => exact ⟨c, r, rfl⟩
  have hc := hd c (by rw [hcr]; simp)
  have e1 : digitsOf (decB n) = decB n := by
    unfold digitsOf
    rw [show (decB n).data.toList = Lib.decDigits n.toNat from e, Lib.trimPrefix, if_neg ?_]
    · exact tl_inj e.symm
    · rw [hcr]
      intro hp
      have : c.toNat = 45 := by
        have hp : Lib.hasPrefix (c :: r) [45] = true := hp
        simp [Lib.hasPrefix] at hp
        first | (rw [hp]; rfl) | (rw [← hp]; rfl)
      omega
  have hs : (decB n).size = (Lib.decDigits n.toNat).length := by rw [← tl_len, e]
  have hp : Lib.parseIntB 64 (decB n).data.toList = .ok n := by
    rw [show (decB n).data.toList = Lib.decDigits n.toNat from e]
    unfold Lib.parseIntB
    rw [hcr]
    simp only
    rw [if_neg (by omega), ← hcr]
    unfold Lib.parseUintB
    rw [if_neg (by rw [hcr]; simp), parse_val (by decide) _ _ hd (by rw [hv]; omega), hv]
    simp only
    rw [if_neg (by omega), if_neg (by omega), if_neg (by omega)]
    congr 1; omega
  unfold readD
  rw [e1, if_neg (by omega), hp]
  simp only
  exact if_pos rfl
theorem idx_app {c : UInt8} : ∀ (a b : List UInt8), c ∉ a → Lib.indexByte (a ++ c :: b) c = a.length
  | [], b, _ => by simp [Lib.indexByte]
  | x :: a, b, h => by
    have hx : (x == c) = false := by simp at h ⊢; exact fun e => h.1 e.symm
    have ih := idx_app a b (fun hc => h (List.mem_cons_of_mem _ hc))
    have hne : ((a.length : Int) == -1) = false := by simp
    simp only [List.cons_append, Lib.indexByte, hx, ih, hne, Bool.false_eq_true, if_false, List.length_cons]
    omega
theorem idx_lt {c : UInt8} : ∀ (a : List UInt8), Lib.indexByte a c < a.length
  | [] => by simp [Lib.indexByte]
  | x :: a => by
    have ih := idx_lt (c := c) a
    unfold Lib.indexByte
    (repeat' split) <;> simp <;> omega
theorem cut_some {p : ByteArray} {c : UInt8} (hp : p.size ≤ 1048576) : ∃ r, strings_Cut_m p ⟨#[c]⟩ = some r ∧ r.1.size ≤ p.size ∧ r.2.1.size ≤ p.size := by
  unfold strings_Cut_m internal_stringslite_Cut_m internal_stringslite_Index_m
  have hl := idx_lt (c := c) (tl p)
  rw [tl_len] at hl
  have hsz : (⟨#[c]⟩ : ByteArray).size = 1 := rfl
  rw [chk_t hsz, Option.bind_some]
  have ei : Lib.indexByte p.data.toList ((⟨#[c]⟩ : ByteArray).data.toList.headD 0) = Lib.indexByte (tl p) c := rfl
  rw [ei]
  by_cases h0 : 0 ≤ Lib.indexByte (tl p) c
  · rw [if_pos h0, chk_t (by omega), hsz, w64_in (by omega) (by omega), chk_t (by omega)]
    refine ⟨_, rfl, ?_, ?_⟩
    · dsimp only; rw [← tl_len, tl_ext, ← tl_len p]; simp; omega
    · dsimp only; rw [← tl_len, tl_ext, ← tl_len p]; simp
  · rw [if_neg h0]
    exact ⟨_, rfl, Nat.le_refl _, Nat.zero_le _⟩
theorem cut_at {a b : List UInt8} {c : UInt8} (hc : c ∉ a) (hp : (a ++ c :: b).length ≤ 1048576) : strings_Cut_m (ba (a ++ c :: b)) ⟨#[c]⟩ = some (ba a, ba b, true) := by
  unfold strings_Cut_m internal_stringslite_Cut_m internal_stringslite_Index_m
  have hsz : (⟨#[c]⟩ : ByteArray).size = 1 := rfl
  have e : Lib.indexByte (ba (a ++ c :: b)).data.toList ((⟨#[c]⟩ : ByteArray).data.toList.headD 0) = a.length := idx_app a b hc
  have hs : (ba (a ++ c :: b)).size = a.length + b.length + 1 := by rw [ba_size]; simp; omega
  simp at hp
  rw [chk_t hsz, Option.bind_some, e, if_pos (by omega), chk_t (by omega), hsz, w64_in (by omega) (by omega), chk_t (by omega), Option.bind_some]
  have e1 : (ba (a ++ c :: b)).extract (0 : Int).toNat ((a.length : Int)).toNat = ba a := tl_inj (by rw [tl_ext, tl_ba, tl_ba]; simp)
  have e2 : (ba (a ++ c :: b)).extract ((a.length : Int) + ((1 : Nat) : Int)).toNat (((ba (a ++ c :: b)).size : Nat) : Int).toNat = ba b := tl_inj (by
    rw [tl_ext, tl_ba, tl_ba, hs, List.take_of_length_le (by simp; omega), show ((a.length : Int) + ((1 : Nat) : Int)).toNat = a.length + 1 by omega, show a ++ c :: b = (a ++ [c]) ++ b by simp, show a.length + 1 = (a ++ [c]).length by simp, List.drop_left])
  rw [e1, e2]
end Go.Proofs.YtjhadibjjldpdaaDoor
namespace Go.Proofs.YtjhadibjjldpdaaDoor
set_option linter.unusedVariables false
set_option maxRecDepth 100000
def plusB : ByteArray := ⟨#[43]⟩
def slashB : ByteArray := ⟨#[47]⟩
theorem ba_sz (a b : ByteArray) : (a ++ b).size = a.size + b.size := ByteArray.size_append
def idxT (x : Index_) : ByteArray := (((decB x.Turns ++ plusB) ++ decB x.Holes) ++ slashB) ++ decB x.Circle
theorem idx_os {d : Divider_} {x : Index_} (h : idxB d x = true) : osI x.Turns ∧ osI x.Holes ∧ osI x.Circle := by
  obtain ⟨h1, h2, h3, h4, _⟩ := idxB_iff h
  have h5 := (divB_iff h1).1
  exact ⟨⟨by omega, by omega⟩, ⟨by omega, by omega⟩, ⟨by omega, by omega⟩⟩
theorem i_IndexText_eq {d : Divider_} {x : Index_} (hl : d.Circles.length ≤ 9223372036854775807) : i_IndexText_m d x = some (if idxB d x = true then idxT x else ⟨#[]⟩) := by
  unfold i_IndexText_m
  rw [i_ValidIndex_eq hl, Option.bind_some]
  cases hb : idxB d x
  · rfl
  obtain ⟨h1, h2, h3⟩ := idx_os hb
  have z1 := decB_size h1
  have z2 := decB_size h2
  have z3 := decB_size h3
  rw [show (⟨#[43]⟩ : ByteArray) = plusB from rfl, show (⟨#[47]⟩ : ByteArray) = slashB from rfl, i_Decimal_eq h1, i_Decimal_eq h2, i_Decimal_eq h3]
  have p1 : plusB.size = 1 := rfl
  have p2 : slashB.size = 1 := rfl
  simp only [Option.bind_some, ba_sz, p1, p2, Bool.not_true, Bool.false_eq_true, if_false, if_true]
  rw [chk_t (by omega), chk_t (by omega), chk_t (by omega), chk_t (by omega)]
  rfl
end Go.Proofs.YtjhadibjjldpdaaDoor
namespace Go.Proofs.YtjhadibjjldpdaaDoor
set_option linter.unusedVariables false
set_option maxRecDepth 100000
theorem no_plus {n : Int} (h0 : 0 ≤ n) {c : UInt8} (hc : c.toNat < 48) : c ∉ tl (decB n) := by
  rw [decB_nat h0]
  intro h
  have := dec_digits _ c h
  omega
theorem idxT_l (x : Index_) : tl (idxT x) = tl (decB x.Turns) ++ 43 :: (tl (decB x.Holes) ++ 47 :: tl (decB x.Circle)) := by
  unfold idxT plusB slashB
  simp only [tl_app]
  show (((tl (decB x.Turns) ++ [43]) ++ tl (decB x.Holes)) ++ [47]) ++ tl (decB x.Circle) = _
  simp
def goodX (d : Divider_) (s : ByteArray) (x : Index_) : Prop := idxB d x = true ∧ idxT x = s
theorem idx_pos {d : Divider_} {x : Index_} (h : idxB d x = true) : (0 ≤ x.Turns ∧ x.Turns < 1000000000000000000) ∧ (0 ≤ x.Holes ∧ x.Holes < 1000000000000000000) ∧ 0 ≤ x.Circle ∧ x.Circle < 1000000000000000000 := by
  obtain ⟨h1, h2, h3, h4, _⟩ := idxB_iff h
  have := (divB_iff h1).1
  omega
theorem i_ReadDecimal_eq {p : ByteArray} (hp : p.size ≤ 1048576) : i_ReadDecimal_m p = some (readD p) := by
  unfold i_ReadDecimal_m
  rw [chk_t (by omega)]
theorem i_ReadIndex_ok {d : Divider_} {s : ByteArray} (hd : d.Circles.length ≤ 1048576) (hs : s.size ≤ 1048576) : ∃ r, i_ReadIndex_m d s = some r ∧ ((goodX d s r.1 ∧ r.2 = true) ∨ r = (⟨0, 0, 0⟩, false)) ∧ ∀ x, goodX d s x → r = (x, true) := by
  unfold i_ReadIndex_m
  obtain ⟨r1, c1, c2, c3⟩ := cut_some (c := 43) hs
  obtain ⟨r2, d1, d2, d3⟩ := cut_some (p := r1.2.1) (c := 47) (by omega)
  rw [c1, Option.bind_some, d1, Option.bind_some, i_ReadDecimal_eq (by omega), Option.bind_some, i_ReadDecimal_eq (by omega), Option.bind_some, i_ReadDecimal_eq (by omega), Option.bind_some, i_ValidIndex_eq (by omega), Option.bind_some, i_IndexText_eq (by omega)]
  have good : ∀ x, goodX d s x → (⟨(readD r1.1).1, (readD r2.1).1, (readD r2.2.1).1⟩ : Index_) = x := by
    intro x hx
    obtain ⟨p1, p2, p3⟩ := idx_pos hx.1
    have e := idxT_l x
    rw [hx.2] at e
    have es : s = ba (tl (decB x.Turns) ++ 43 :: (tl (decB x.Holes) ++ 47 :: tl (decB x.Circle))) := tl_inj (by rw [e]; rfl)
    have hl := tl_len s
    have f1 := cut_at (a := tl (decB x.Turns)) (b := tl (decB x.Holes) ++ 47 :: tl (decB x.Circle)) (c := 43) (no_plus p1.1 (by decide)) (by rw [← e]; omega)
    rw [← es, c1] at f1
    injection f1 with f1
    subst f1
    have f2 := cut_at (a := tl (decB x.Holes)) (b := tl (decB x.Circle)) (c := 47) (no_plus p2.1 (by decide)) (by rw [← tl_ba (tl (decB x.Holes) ++ 47 :: tl (decB x.Circle)), tl_len]; exact Nat.le_trans c3 hs)
    dsimp only at d1
    rw [d1] at f2
    injection f2 with f2
    subst f2
    dsimp only
    rw [ba_tl, ba_tl, ba_tl, readD_dec p1.1 p1.2, readD_dec p2.1 p2.2, readD_dec p3.1 p3.2]
  generalize (⟨(readD r1.1).1, (readD r2.1).1, (readD r2.2.1).1⟩ : Index_) = y at good
  by_cases hv : idxB d y = true
  · by_cases ht : idxT y = s
    · refine ⟨(y, true), by simp [hv, ht], .inl ⟨⟨hv, ht⟩, rfl⟩, fun x hx => by rw [good x hx]⟩
    · exact ⟨(⟨0, 0, 0⟩, false), by simp [hv, ht], .inr rfl, fun x hx => absurd (by rw [good x hx]; exact hx.2) ht⟩
  · refine ⟨(⟨0, 0, 0⟩, false), ?_, .inr rfl, fun x hx => absurd (by rw [good x hx]; exact hx.1) hv⟩
    rw [Bool.not_eq_true] at hv
    simp [hv]
end Go.Proofs.YtjhadibjjldpdaaDoor
namespace Go.Proofs.YtjhadibjjldpdaaDoor
set_option linter.unusedVariables false
set_option maxRecDepth 100000
theorem min_eqM (a b : Int) : s_l00Min_m a b = some (min a b) := by unfold s_l00Min_m; split <;> (congr 1; omega)
def xOs (x : Index_) : Prop := (-1000000 ≤ x.Turns ∧ x.Turns ≤ 1000000) ∧ (-1000000 ≤ x.Holes ∧ x.Holes ≤ 1000000) ∧ -1000000 ≤ x.Circle ∧ x.Circle ≤ 1000000
theorem drawIndex_ok {n : Int} {s : L00Src_} {d : Divider_} (h : srcOk n s) (hn : n ≤ 1000000) (hd : d.Circles.length ≤ 1000000) : Ok (s_l24DrawIndex_b_m s d) (fun r => xOs r.1 ∧ srcOk (n + 20) r.2) := by
  unfold s_l24DrawIndex_b_m
  rw [s_l24Ok_eq (by omega), Option.bind_some]
  by_cases hv : divB d = true
  · rw [hv, if_neg (by decide)]
    obtain ⟨w1, w2, w3⟩ := divB_iff hv
    refine ok_bind (pick_ok h (by omega)) fun v2 h2 => ?_
    refine ok_bind (ok_atI h2.1 (by rcases h2.2.1 with q | q <;> omega)) fun v3 h3 => ?_
    have hc := w3 v3 h3.1
    have hp := prod_in (a := d.Worm) (b := v3) (A := 360) (B := 200) (by omega) w1.2 (by omega) hc.2
    rw [min_eqM, Option.bind_some]
    refine ok_bind (pick_ok h2.2.2.2 (by omega)) fun v5 h5 => ?_
    have h50 := h5.1
    have h51 := h5.2.2.1
    have e1 : w64 (1 + v5.1) = 1 + v5.1 := w64_in (by omega) (by omega)
    have e2 : (1 + v5.1).tdiv v3 = (1 + v5.1) / v3 := Int.tdiv_eq_ediv_of_nonneg (by omega)
    have e3 : (1 + v5.1).tmod v3 = (1 + v5.1) % v3 := Int.tmod_eq_emod_of_nonneg (by omega)
    have b1 : 0 ≤ (1 + v5.1) / v3 := Int.ediv_nonneg (by omega) (by omega)
    have b2 : (1 + v5.1) / v3 ≤ 1 + v5.1 := Int.ediv_le_self _ (by omega)
    have b3 := Int.emod_nonneg (1 + v5.1) (show v3 ≠ 0 by omega)
    have b4 := Int.emod_lt_of_pos (1 + v5.1) (show 0 < v3 by omega)
    unfold s_l24Make_m
    rw [chk_t (by omega), chk_t (by omega), e1, e2, e3, w64_in (x := (1 + v5.1) / v3) (by omega) (by omega), Option.bind_some]
    refine ok_bind (P := fun v => xOs v.2 ∧ srcOk (n + 20) v.1) ?_ fun v10 h10 => ok_some h10
    refine ok_bind (pick_ok h5.2.2.2 (by omega)) fun v7 h7 => ?_
    have h72 := h7.2.2.2
    have a1 : w64 (v3 - 1) = v3 - 1 := w64_in (by omega) (by omega)
    have a2 : w64 (d.Worm + 1) = d.Worm + 1 := w64_in (by omega) (by omega)
    have a3 : w64 (v3 + 1) = v3 + 1 := w64_in (by omega) (by omega)
    refine ok_ite (fun _ => ?_) fun _ => ?_
    · refine ok_bind (among_ok h72 (by omega) (by simp)) fun v8 h8 => ok_some ⟨⟨by dsimp only; omega, ?_, by dsimp only; omega⟩, srcOk_le h8.2 (by omega)⟩
      have := h8.1
      simp only [List.mem_cons, List.not_mem_nil, or_false, a1] at this
      dsimp only
      omega
    · refine ok_ite (fun _ => ?_) fun _ => ?_
      · refine ok_bind (among_ok h72 (by omega) (by simp)) fun v8 h8 => ok_some ⟨⟨?_, by dsimp only; omega, by dsimp only; omega⟩, srcOk_le h8.2 (by omega)⟩
        have := h8.1
        simp only [List.mem_cons, List.not_mem_nil, or_false, a2] at this
        dsimp only
        omega
      · refine ok_ite (fun _ => ok_some ⟨⟨by dsimp only; omega, by dsimp only; omega, ?_⟩, srcOk_le h72 (by omega)⟩) fun _ => ok_some ⟨⟨by dsimp only; omega, by dsimp only; omega, by dsimp only; omega⟩, srcOk_le h72 (by omega)⟩
        dsimp only; rw [a3]; omega
  · rw [Bool.not_eq_true] at hv
    rw [hv]
    exact ok_some ⟨⟨by dsimp only; omega, by dsimp only; omega, by dsimp only; omega⟩, srcOk_le h (by omega)⟩
def closeR (d : Divider_) (x : Index_) : Int × Int := if idxB d x = true then (d.Worm * x.Circle / (Int.gcd (d.Worm * x.Circle) (stepX x) : Int), 0) else (0, 1)
theorem idx_wrap {d : Divider_} {x : Index_} (h : idxB d x = true) : w64 (w64 (x.Turns * x.Circle) + x.Holes) = stepX x ∧ w64 (d.Worm * x.Circle) = d.Worm * x.Circle ∧ 2 ≤ d.Worm * x.Circle ∧ d.Worm * x.Circle ≤ 72000 ∧ 1 ≤ stepX x ∧ stepX x ≤ d.Worm * x.Circle := by
  have h' := h
  unfold idxB at h'
  simp only [Bool.and_eq_true] at h'
  obtain ⟨h1, h2, h3, h4, _⟩ := h'
  have t := idx_tail h1 h2 h3 h4
  obtain ⟨_, c1, _, _, s1, s2⟩ := idxB_iff h
  have w := (divB_iff h1).1
  have p := prod_in (a := d.Worm) (b := x.Circle) (A := 360) (B := 200) (by omega) w.2 (by omega) c1.2
  have p2 : 2 ≤ d.Worm * x.Circle := by
    have := Int.mul_le_mul w.1 c1.1 (by omega) (by omega)
    omega
  exact ⟨t.1, t.2.1, p2, by omega, s1, s2⟩
theorem gcdW {W S : Int} (hW : 2 ≤ W) (hW2 : W ≤ 72000) (hS : 1 ≤ S) : 1 ≤ (Int.gcd W S : Int) ∧ (Int.gcd W S : Int) ≤ W ∧ W.tdiv (Int.gcd W S : Int) = W / (Int.gcd W S : Int) ∧ 1 ≤ W / (Int.gcd W S : Int) ∧ W / (Int.gcd W S : Int) ≤ W := by
  have g0 : 0 < Int.gcd W S := Int.gcd_pos_of_ne_zero_left _ (by omega)
  have gd : (Int.gcd W S : Int) ∣ W := Int.gcd_dvd_left ..
  have gl := Int.le_of_dvd (by omega) gd
  refine ⟨by omega, gl, Int.tdiv_eq_ediv_of_nonneg (by omega), ?_, Int.ediv_le_self _ (by omega)⟩
  exact (Int.le_ediv_iff_mul_le (by omega)).2 (by omega)
theorem i_ClosesAfter_eq {d : Divider_} {x : Index_} (hd : d.Circles.length ≤ 9223372036854775807) : i_ClosesAfter_m d x = some (closeR d x) := by
  unfold i_ClosesAfter_m closeR i_stepOf_m
  rw [i_ValidIndex_eq hd, Option.bind_some, Option.bind_some]
  cases hv : idxB d x
  · rfl
  · obtain ⟨e1, e2, w1, w2, s1, s2⟩ := idx_wrap hv
    obtain ⟨g1, g2, g3, g4, g5⟩ := gcdW w1 w2 s1
    simp only [Bool.not_true, Bool.false_eq_true, if_false, if_true, e1, e2]
    rw [i_gcd_eq ⟨by omega, by omega⟩ (by omega) ⟨by omega, by omega⟩ (by omega), Option.bind_some, chk_t (by omega), g3, w64_in (by omega) (by omega)]
end Go.Proofs.YtjhadibjjldpdaaDoor
namespace Go.Proofs.YtjhadibjjldpdaaDoor
set_option linter.unusedVariables false
set_option maxRecDepth 100000
theorem near_pr {a n : Int} (hn : 1 ≤ n) : 2 * a - n ≤ 2 * (near a n * n) ∧ 2 * (near a n * n) ≤ 2 * a + n := by
  unfold near
  have h1 := Int.mul_ediv_add_emod (2 * a + n) (2 * n)
  have h2 := Int.emod_nonneg (2 * a + n) (show 2 * n ≠ 0 by omega)
  have h3 := Int.emod_lt_of_pos (2 * a + n) (show 0 < 2 * n by omega)
  generalize (2 * a + n) / (2 * n) = q at *
  generalize (2 * a + n) % (2 * n) = r at *
  have e : 2 * n * q = 2 * (q * n) := by grind
  rw [e] at h1
  generalize q * n = z at *
  constructor <;> omega
theorem near_nn {a n : Int} (hn : 1 ≤ n) (ha : 0 ≤ a) : 0 ≤ near a n ∧ near a n ≤ a := by
  unfold near
  refine ⟨Int.ediv_nonneg (by omega) (by omega), ?_⟩
  have : (2 * a + n) / (2 * n) < a + 1 := Int.ediv_lt_of_lt_mul (by omega) (by
    have h := Int.mul_le_mul_of_nonneg_left hn ha
    have e : (a + 1) * (2 * n) = 2 * (a * n) + 2 * n := by grind
    rw [e]
    generalize a * n = z at *
    omega)
  omega
theorem near_best {a n : Int} (s : Int) (hn : 1 ≤ n) : absI (near a n * n - a) ≤ absI (n * s - a) := by
  obtain ⟨h1, h2⟩ := near_pr (a := a) hn
  generalize near a n = q at *
  rcases Int.lt_trichotomy s q with h | h | h
  · have := Int.mul_le_mul_of_nonneg_left (show s + 1 ≤ q by omega) (show 0 ≤ n by omega)
    have e1 : n * (s + 1) = n * s + n := by grind
    have e2 : n * q = q * n := by grind
    rw [e1, e2] at this
    generalize n * s = z at *
    generalize q * n = y at *
    unfold absI; omega
  · subst h
    have e2 : n * s = s * n := by grind
    rw [e2]; omega
  · have := Int.mul_le_mul_of_nonneg_left (show q + 1 ≤ s by omega) (show 0 ≤ n by omega)
    have e1 : n * (q + 1) = q * n + n := by grind
    rw [e1] at this
    generalize n * s = z at *
    generalize q * n = y at *
    unfold absI; omega
theorem getD_lt {xs : List Int} {j : Nat} (h : j < xs.length) : xs.getD j 0 = xs[j] := by simp [List.getD, h]
def hN (d : Divider_) (n c : Int) : Int := near (d.Worm * c) n
def offN (d : Divider_) (n c : Int) : Int := absI (hN d n c * n - d.Worm * c)
def nearS (d : Divider_) (n : Int) (s : Int × Index_) (c : Int) : Int × Index_ :=
  if hN d n c = 0 then s else if s.2.Circle = 0 ∨ offN d n c * s.2.Circle < s.1 * c then (offN d n c, motX (hN d n c) c) else s
def nearF (d : Divider_) (n : Int) (k : Nat) : Int × Index_ := (List.range k).foldl (fun s i => nearS d n s (d.Circles.getD i 0)) (0, ⟨0, 0, 0⟩)
def nearR (d : Divider_) (n : Int) : Index_ × Int := if divB d = true then (if btw n 1 2000 = true then (if (nearF d n d.Circles.length).2.Circle = 0 then (⟨0, 0, 0⟩, 3) else ((nearF d n d.Circles.length).2, 0)) else (⟨0, 0, 0⟩, 2)) else (⟨0, 0, 0⟩, 1)
def InvN (d : Divider_) (n : Int) (k : Nat) (s : Int × Index_) : Prop :=
  (s = (0, ⟨0, 0, 0⟩) ∧ ∀ j, j < k → hN d n (d.Circles.getD j 0) = 0) ∨
  ∃ i, i < k ∧ hN d n (d.Circles.getD i 0) ≠ 0 ∧ s = (offN d n (d.Circles.getD i 0), motX (hN d n (d.Circles.getD i 0)) (d.Circles.getD i 0)) ∧
    ∀ j, j < k → hN d n (d.Circles.getD j 0) ≠ 0 → offN d n (d.Circles.getD i 0) * d.Circles.getD j 0 ≤ offN d n (d.Circles.getD j 0) * d.Circles.getD i 0
theorem near_c {d : Divider_} {n c : Int} (hd : divB d = true) (hc : c ∈ d.Circles) (n0 : 1 ≤ n) (n1 : n ≤ 2000) : w64 (d.Worm * c) = d.Worm * c ∧ (2 ≤ d.Worm * c ∧ d.Worm * c ≤ 72000) ∧ (2 ≤ c ∧ c ≤ 200) ∧ (0 ≤ hN d n c ∧ hN d n c ≤ d.Worm * c) ∧ w64 (w64 (hN d n c * n) - d.Worm * c) = hN d n c * n - d.Worm * c ∧ (0 ≤ offN d n c ∧ 2 * offN d n c ≤ n) ∧ -2000 ≤ hN d n c * n - d.Worm * c ∧ hN d n c * n - d.Worm * c ≤ 2000 := by
  obtain ⟨e1, e2, e3, e4, e5, _⟩ := wc_in hd hc n0
  have w := (divB_iff hd).1
  have p2 : 2 ≤ d.Worm * c := by
    have := Int.mul_le_mul w.1 e4 (by omega) (by omega)
    omega
  have h1 := near_nn (a := d.Worm * c) n0 e2
  obtain ⟨h2, h3⟩ := near_pr (a := d.Worm * c) n0
  unfold offN hN
  generalize near (d.Worm * c) n = h at *
  generalize d.Worm * c = a at *
  generalize h * n = z at *
  refine ⟨e1, ⟨p2, e3⟩, ⟨e4, e5⟩, h1, ?_, ⟨absI_nn _, ?_⟩, by omega, by omega⟩
  · rw [w64_in (x := z) (by omega) (by omega), w64_in (by omega) (by omega)]
  · unfold absI; omega
theorem inv_step {d : Divider_} {n : Int} (hd : divB d = true) (n0 : 1 ≤ n) (n1 : n ≤ 2000) {k : Nat} (hk : k < d.Circles.length) {s : Int × Index_} (h : InvN d n k s) : InvN d n (k + 1) (nearS d n s (d.Circles.getD k 0)) := by
  have hm : ∀ j, j < d.Circles.length → d.Circles.getD j 0 ∈ d.Circles := fun j hj => by rw [getD_lt hj]; exact List.getElem_mem hj
  have hck := near_c hd (hm k hk) n0 n1
  unfold nearS
  by_cases hz : hN d n (d.Circles.getD k 0) = 0
  · rw [if_pos hz]
    rcases h with ⟨h1, h2⟩ | ⟨i, h1, h2, h3, h4⟩
    · refine .inl ⟨h1, fun j hj => ?_⟩
      rcases Nat.lt_or_ge j k with q | q
      · exact h2 j q
      · rw [show j = k by omega]; exact hz
    · refine .inr ⟨i, by omega, h2, h3, fun j hj hj2 => ?_⟩
      rcases Nat.lt_or_ge j k with q | q
      · exact h4 j q hj2
      · rw [show j = k by omega] at hj2; exact absurd hz hj2
  · rw [if_neg hz]
    rcases h with ⟨h1, h2⟩ | ⟨i, h1, h2, h3, h4⟩
    · subst h1
      rw [if_pos (.inl rfl)]
      refine .inr ⟨k, by omega, hz, rfl, fun j hj hj2 => ?_⟩
      rcases Nat.lt_or_ge j k with q | q
      · exact absurd (h2 j q) hj2
      · rw [show j = k by omega]; omega
    · have hci := near_c hd (hm i (by omega)) n0 n1
      subst h3
      have e : (motX (hN d n (d.Circles.getD i 0)) (d.Circles.getD i 0)).Circle = d.Circles.getD i 0 := rfl
      dsimp only
      rw [e]
      by_cases hlt : offN d n (d.Circles.getD k 0) * d.Circles.getD i 0 < offN d n (d.Circles.getD i 0) * d.Circles.getD k 0
      · rw [if_pos (.inr hlt)]
        refine .inr ⟨k, by omega, hz, rfl, fun j hj hj2 => ?_⟩
        rcases Nat.lt_or_ge j k with q | q
        · have h5 := h4 j q hj2
          have hcj := near_c hd (hm j (by omega)) n0 n1
          generalize offN d n (d.Circles.getD k 0) = ok at *
          generalize offN d n (d.Circles.getD i 0) = oi at *
          generalize offN d n (d.Circles.getD j 0) = oj at *
          generalize d.Circles.getD k 0 = ck at *
          generalize d.Circles.getD i 0 = ci at *
          generalize d.Circles.getD j 0 = cj at *
          have a1 : ok * ci * cj ≤ oi * ck * cj := Int.mul_le_mul_of_nonneg_right (by omega) (by omega)
          have a2 : oi * cj * ck ≤ oj * ci * ck := Int.mul_le_mul_of_nonneg_right h5 (by omega)
          have a3 : ok * cj * ci ≤ oj * ck * ci := by
            have b1 : ok * ci * cj = ok * cj * ci := by grind
            have b2 : oi * ck * cj = oi * cj * ck := by grind
            have b3 : oj * ci * ck = oj * ck * ci := by grind
            omega
          exact Int.le_of_mul_le_mul_right a3 (by omega)
        · rw [show j = k by omega]; omega
      · rw [if_neg (by rintro (q | q) <;> omega)]
        refine .inr ⟨i, by omega, h2, rfl, fun j hj hj2 => ?_⟩
        rcases Nat.lt_or_ge j k with q | q
        · exact h4 j q hj2
        · rw [show j = k by omega]; omega
theorem inv_all {d : Divider_} {n : Int} (hd : divB d = true) (n0 : 1 ≤ n) (n1 : n ≤ 2000) : ∀ k, k ≤ d.Circles.length → InvN d n k (nearF d n k)
  | 0, _ => .inl ⟨rfl, fun j hj => by omega⟩
  | k + 1, hk => by
    unfold nearF
    rw [List.range_succ, List.foldl_append]
    exact inv_step hd n0 n1 (by omega) (inv_all hd n0 n1 k (by omega))
theorem near_s {d : Divider_} {n : Int} (hd : divB d = true) (n0 : 1 ≤ n) (n1 : n ≤ 2000) {k : Nat} (hk : k < d.Circles.length) {s : Int × Index_} (h : InvN d n k s) : w64 (offN d n (d.Circles.getD k 0) * s.2.Circle) = offN d n (d.Circles.getD k 0) * s.2.Circle ∧ w64 (s.1 * d.Circles.getD k 0) = s.1 * d.Circles.getD k 0 := by
  have hm : ∀ j, j < d.Circles.length → d.Circles.getD j 0 ∈ d.Circles := fun j hj => by rw [getD_lt hj]; exact List.getElem_mem hj
  have hck := near_c hd (hm k hk) n0 n1
  rcases h with ⟨rfl, h2⟩ | ⟨i, h1, h2, rfl, h4⟩
  · dsimp only; rw [Int.mul_zero, Int.zero_mul]; exact ⟨rfl, rfl⟩
  · have hci := near_c hd (hm i (by omega)) n0 n1
    have e : (motX (hN d n (d.Circles.getD i 0)) (d.Circles.getD i 0)).Circle = d.Circles.getD i 0 := rfl
    dsimp only
    rw [e]
    have p1 := prod_in (a := offN d n (d.Circles.getD k 0)) (b := d.Circles.getD i 0) (A := 2000) (B := 200) (by omega) (by omega) (by omega) (by omega)
    have p2 := prod_in (a := offN d n (d.Circles.getD i 0)) (b := d.Circles.getD k 0) (A := 2000) (B := 200) (by omega) (by omega) (by omega) (by omega)
    exact ⟨w64_in (by omega) (by omega), w64_in (by omega) (by omega)⟩
theorem i_abs_eqN {x : Int} (h0 : -9000000000000000000 ≤ x) (h1 : x ≤ 9000000000000000000) : i_abs_m x = some (absI x) := by
  unfold i_abs_m absI
  split
  · rw [w64_in (by omega) (by omega)]; congr 1; omega
  · congr 1; omega
theorem i_NearIndex_eq {d : Divider_} {n : Int} (hl : d.Circles.length ≤ 9223372036854775807) : i_NearIndex_m d n = some (nearR d n) := by
  unfold i_NearIndex_m nearR
  simp only [i_ValidDivider_eq hl, i_isDivision_m, i_within_eq, Option.bind_some]
  cases hd : divB d
  · rfl
  · cases hn : btw n 1 2000
    · rfl
    · have hq := of_decide_eq_true hn
      simp only [Bool.not_true, Bool.false_eq_true, if_false, if_true]
      rw [countI (fun i (s : Int × Index_) => (s.1, i, s.2)) 0 d.Circles.length (fun k s => nearS d n s (d.Circles.getD k 0)) (fun s => s.2) (InvN d n) (by omega) (fun k s hk hs => ?_) (fun k s hk hs => inv_step hd hq.1 hq.2 hk hs) (fun s hs => ?_) (0, ⟨0, 0, 0⟩) (.inl ⟨rfl, fun j hj => by omega⟩), Option.bind_some]
      · show (if (nearF d n d.Circles.length).2.Circle = 0 then _ else _) = _
        split <;> rfl
      · have hk' : (k : Int) < (d.Circles.length : Int) := by omega
        have hm : d.Circles[k] = d.Circles.getD k 0 := by rw [getD_lt hk]
        have hmm : d.Circles.getD k 0 ∈ d.Circles := by rw [← hm]; exact List.getElem_mem hk
        obtain ⟨c1, c2, c3, c4, c5, c6, c7⟩ := near_c hd hmm hq.1 hq.2
        obtain ⟨s1, s2⟩ := near_s hd hq.1 hq.2 hk hs
        have e1 : w64 ((k : Int) + 1) = 0 + ((k + 1 : Nat) : Int) := by rw [w64_in (by omega) (by omega)]; omega
        simp only [Int.zero_add] at e1 ⊢
        rw [if_pos hk', atI_lt hk, Option.bind_some, hm, c1, i_nearestDiv_eq hq.1 (by omega) (by omega) (by omega), Option.bind_some]
        show (((i_abs_m (w64 (w64 (hN d n (d.Circles.getD k 0) * n) - d.Worm * d.Circles.getD k 0))).bind _).bind _) = _
        rw [c5, i_abs_eqN (by omega) (by omega), Option.bind_some]
        show (((if 0 < hN d n (d.Circles.getD k 0) then (if s.2.Circle = 0 then some true else some (decide (w64 (offN d n (d.Circles.getD k 0) * s.2.Circle) < w64 (s.1 * d.Circles.getD k 0)))) else some false) : Option Bool).bind fun v14 => (if v14 = true then ((i_motionOf_m (hN d n (d.Circles.getD k 0)) (d.Circles.getD k 0)).bind fun v15 => some (offN d n (d.Circles.getD k 0), v15)) else some (s.1, s.2))).bind (fun v16 => some (.inl (v16.1, w64 ((k : Int) + 1), v16.2) : (Int × Int × Index_) ⊕ Index_)) = _
        rw [s1, s2, e1]
        unfold nearS
        by_cases hz : hN d n (d.Circles.getD k 0) = 0
        · rw [if_neg (by omega), if_pos hz]; rfl
        · rw [if_pos (by omega), if_neg hz]
          unfold i_motionOf_m
          rw [chk_t (by omega), chk_t (by omega), mot_eq (by omega) (by omega) c3.1]
          by_cases hs0 : s.2.Circle = 0
          · rw [if_pos hs0, if_pos (.inl hs0)]; rfl
          · rw [if_neg hs0]
            by_cases hlt : offN d n (d.Circles.getD k 0) * s.2.Circle < s.1 * d.Circles.getD k 0
            · rw [if_pos (.inr hlt), decide_eq_true hlt]; rfl
            · rw [if_neg (by rintro (q | q); exact hs0 q; exact hlt q), decide_eq_false hlt]; rfl
      · simp only [Int.zero_add, Int.lt_irrefl, if_false]
theorem s_size_eqN {x : Int} (h0 : -9000000000000000000 ≤ x) (h1 : x ≤ 9000000000000000000) : s_l02Size_m x = some (absI x) := by
  unfold s_l02Size_m absI
  split
  · rw [w64_in (by omega) (by omega)]; congr 1; omega
  · congr 1; omega
theorem s_NearIndex_eq {d : Divider_} {n : Int} (hl : d.Circles.length ≤ 9223372036854775807) : s_NearIndex_m d n = some (nearR d n) := by
  unfold s_NearIndex_m nearR
  rw [s_l24Code_eq hl, Option.bind_some]
  unfold codeD
  cases hd : divB d
  · rfl
  · cases hn : btw n 1 2000
    · rfl
    · have hq := of_decide_eq_true hn
      simp only [if_true, ne_eq, not_true_eq_false, if_false]
      rw [countI (fun i (s : Int × Index_) => (s.1, i, s.2)) 0 d.Circles.length (fun k s => nearS d n s (d.Circles.getD k 0)) (fun s => s.2) (InvN d n) (by omega) (fun k s hk hs => ?_) (fun k s hk hs => inv_step hd hq.1 hq.2 hk hs) (fun s hs => ?_) (0, ⟨0, 0, 0⟩) (.inl ⟨rfl, fun j hj => by omega⟩), Option.bind_some]
      · show (if (nearF d n d.Circles.length).2.Circle = 0 then _ else _) = _
        split <;> rfl
      · have hk' : (k : Int) < (d.Circles.length : Int) := by omega
        have hm : d.Circles[k] = d.Circles.getD k 0 := by rw [getD_lt hk]
        have hmm : d.Circles.getD k 0 ∈ d.Circles := by rw [← hm]; exact List.getElem_mem hk
        obtain ⟨c1, c2, c3, c4, c5, c6, c7⟩ := near_c hd hmm hq.1 hq.2
        obtain ⟨s1, s2⟩ := near_s hd hq.1 hq.2 hk hs
        have e1 : w64 ((k : Int) + 1) = 0 + ((k + 1 : Nat) : Int) := by rw [w64_in (by omega) (by omega)]; omega
        simp only [Int.zero_add] at e1 ⊢
        rw [if_pos hk', atI_lt hk, Option.bind_some, hm, c1, s_l02Near_eq hq.1 (by omega) (by omega) (by omega), Option.bind_some]
        unfold nearS
        show ((if hN d n (d.Circles.getD k 0) = 0 then some (s.1, s.2) else ((s_l02Size_m (w64 (w64 (hN d n (d.Circles.getD k 0) * n) - d.Worm * d.Circles.getD k 0))).bind fun v12 => (((if s.2.Circle = 0 then some true else some (decide (w64 (v12 * s.2.Circle) < w64 (s.1 * d.Circles.getD k 0)))) : Option Bool).bind fun v13 => (if v13 = true then ((s_l24Make_m (hN d n (d.Circles.getD k 0)) (d.Circles.getD k 0)).bind fun v14 => some (v12, v14)) else some (s.1, s.2))))).bind (fun v16 => some (.inl (v16.1, w64 ((k : Int) + 1), v16.2) : (Int × Int × Index_) ⊕ Index_))) = _
        by_cases hz : hN d n (d.Circles.getD k 0) = 0
        · rw [if_pos hz, if_pos hz, e1]; rfl
        · rw [if_neg hz, if_neg hz, c5, s_size_eqN (by omega) (by omega), Option.bind_some]
          show ((((if s.2.Circle = 0 then some true else some (decide (w64 (offN d n (d.Circles.getD k 0) * s.2.Circle) < w64 (s.1 * d.Circles.getD k 0)))) : Option Bool).bind fun v13 => (if v13 = true then ((s_l24Make_m (hN d n (d.Circles.getD k 0)) (d.Circles.getD k 0)).bind fun v14 => some (offN d n (d.Circles.getD k 0), v14)) else some (s.1, s.2))).bind (fun v16 => some (.inl (v16.1, w64 ((k : Int) + 1), v16.2) : (Int × Int × Index_) ⊕ Index_))) = _
          rw [s1, s2, e1]
          unfold s_l24Make_m
          rw [chk_t (by omega), chk_t (by omega), mot_eq (by omega) (by omega) c3.1]
          by_cases hs0 : s.2.Circle = 0
          · rw [if_pos hs0, if_pos (.inl hs0)]; rfl
          · rw [if_neg hs0]
            by_cases hlt : offN d n (d.Circles.getD k 0) * s.2.Circle < s.1 * d.Circles.getD k 0
            · rw [if_pos (.inr hlt), decide_eq_true hlt]; rfl
            · rw [if_neg (by rintro (q | q); exact hs0 q; exact hlt q), decide_eq_false hlt]; rfl
      · simp only [Int.zero_add, Int.lt_irrefl, if_false]
theorem s_ExactIndex_eq {d : Divider_} {n : Int} (hl : d.Circles.length ≤ 9223372036854775807) : s_ExactIndex_m d n = some (exactR d n) := by
  unfold s_ExactIndex_m exactR
  rw [s_l24Code_eq hl, Option.bind_some]
  unfold codeD
  cases hd : divB d
  · rfl
  · cases hn : btw n 1 2000
    · rfl
    · have hq := of_decide_eq_true hn
      simp only [if_true, ne_eq, not_true_eq_false, if_false]
      rw [s_l24Exact_eq hd hq.1, Option.bind_some]
      cases (exactX d n).2 <;> rfl
theorem drawIndexE_ok {c : List Int} (h1 : c.length ≤ 1000000) (h2 : ∀ b ∈ c, 0 ≤ b ∧ b ≤ 255) : Ok (s_DrawIndexError_m c) (fun _ => True) := by
  unfold s_DrawIndexError_m
  refine ok_bind (from_ok h1 h2) fun v1 q1 => ?_
  refine ok_bind (l24Bent_ok q1 (by omega)) fun v2 q2 => ?_
  refine ok_bind (l24Count_ok q2.2 (by omega)) fun v3 q3 => ?_
  exact ok_bind (drawIndex_ok q3 (by omega) (by have := q2.1; omega)) fun v4 q4 => ok_some trivial
theorem has_mem {xs : List Int} {c : Int} : hasB xs c = true ↔ c ∈ xs := by
  unfold hasB
  rw [List.any_eq_true]
  constructor
  · rintro ⟨v, hv, e⟩; have e := of_decide_eq_true e; subst e; exact hv
  · intro h; exact ⟨c, h, decide_eq_true rfl⟩
theorem mot_idx {d : Divider_} {h c : Int} (hd : divB d = true) (hc : c ∈ d.Circles) (h0 : 1 ≤ h) (h1 : h ≤ d.Worm * c) : idxB d (motX h c) = true ∧ stepX (motX h c) = h := by
  have w := divB_iff hd
  have c1 := w.2.2 c hc
  have e : stepX (motX h c) = h := by unfold stepX motX; dsimp only; rw [Int.mul_comm]; exact Int.mul_ediv_add_emod h c
  refine ⟨?_, e⟩
  have t1 : 0 ≤ h / c := Int.ediv_nonneg (by omega) (by omega)
  have t2 : h / c ≤ d.Worm := by
    have : h / c < d.Worm + 1 := Int.ediv_lt_of_lt_mul (by omega) (by rw [Int.add_mul]; omega)
    omega
  have t3 := Int.emod_nonneg h (show c ≠ 0 by omega)
  have t4 := Int.emod_lt_of_pos h (show 0 < c by omega)
  unfold idxB
  rw [hd, e]
  have a1 : hasB d.Circles (motX h c).Circle = true := has_mem.2 hc
  have a2 : btw (motX h c).Turns 0 d.Worm = true := decide_eq_true ⟨t1, t2⟩
  have a3 : btw (motX h c).Holes 0 ((motX h c).Circle - 1) = true := decide_eq_true ⟨t3, by show h % c ≤ c - 1; omega⟩
  have a4 : btw h 1 (d.Worm * (motX h c).Circle) = true := decide_eq_true ⟨h0, h1⟩
  rw [a1, a2, a3, a4]; rfl
def errN (d : Divider_) (n : Int) (x : Index_) : Int := n * stepX x - d.Worm * x.Circle
theorem mkR_cross {n d : Int} (hd : 1 ≤ d) (h : (mkR n d).2 = true) : ∃ g : Int, 1 ≤ g ∧ absI (mkR n d).1.Num * g = absI n ∧ (mkR n d).1.Den * g = d := by
  unfold mkR at h ⊢
  split at h
  · cases h
  · rename_i hc
    rw [if_neg hc]
    have hg : 0 < Int.gcd n d := gcd_pos (by omega)
    refine ⟨(Int.gcd n d : Int), by omega, ?_, ?_⟩
    · have : absI (if (decide (n < 0) != decide (d < 0)) = true then -(absI n / (Int.gcd n d : Int)) else absI n / (Int.gcd n d : Int)) = absI n / (Int.gcd n d : Int) := by
        have := (quo_bd (a := absI n) (g := (Int.gcd n d : Int)) (absI_nn n) (by omega)).1
        generalize absI n / (Int.gcd n d : Int) = z at *
        split <;> (unfold absI; omega)
      dsimp only
      rw [this]
      have dv : (Int.gcd n d : Int) ∣ absI n := by
        unfold absI
        exact Int.natCast_dvd_natCast.2 (Nat.gcd_dvd_left n.natAbs d.natAbs)
      exact Int.ediv_mul_cancel dv
    · dsimp only
      have dv : (Int.gcd n d : Int) ∣ absI d := by
        unfold absI
        exact Int.natCast_dvd_natCast.2 (Nat.gcd_dvd_right n.natAbs d.natAbs)
      rw [Int.ediv_mul_cancel dv]; unfold absI; omega
theorem ind_val {d : Divider_} {n : Int} {x : Index_} (h : idxB d x = true) (hn : btw n 1 2000 = true) : indErr d n x = ((mkR (errN d n x) x.Circle).1, 0) ∧ (mkR (errN d n x) x.Circle).2 = true ∧ 2 ≤ x.Circle := by
  obtain ⟨h1, h2, h3, h4, h5⟩ := idxB_iff h
  have hq := of_decide_eq_true hn
  have w := divB_iff h1
  have p2 := prod_in (a := d.Worm) (b := x.Circle) (A := 360) (B := 200) (by omega) (by omega) (by omega) h2.2
  have p3 := prod_in (a := n) (b := stepX x) (A := 2000) (B := 72000) (by omega) (by omega) (by omega) (by omega)
  have hs : (mkR (errN d n x) x.Circle).2 = true := mkR_small (by omega) (by unfold errN; omega) (by unfold errN; omega) (by omega) (by omega)
  refine ⟨?_, hs, h2.1⟩
  unfold indErr
  rw [if_pos h, if_pos hn]
  show codeR (mkR (errN d n x) x.Circle) = _
  unfold codeR
  rw [if_pos hs]
theorem ind_bad {d : Divider_} {n : Int} {x : Index_} (h : (indErr d n x).2 = 0) : idxB d x = true := by
  cases hx : idxB d x with
  | true => rfl
  | false => unfold indErr at h; rw [hx] at h; simp at h
theorem f6size_eq {x : Int} (h0 : -9000000000000000000 ≤ x) (h1 : x ≤ 9000000000000000000) : l_f6size_m x = some (absI x) := by
  unfold l_f6size_m absI
  split
  · rw [w64_in (by omega) (by omega)]; congr 1; omega
  · congr 1; omega
theorem exact_val {d : Divider_} {n : Int} (hd : divB d = true) (hn : btw n 1 2000 = true) (h : (exactR d n).2 = 0) : ∃ c k, c ∈ d.Circles ∧ 1 ≤ k ∧ d.Worm * c = n * k ∧ k ≤ d.Worm * c ∧ (exactR d n).1 = motX k c := by
  have hq := of_decide_eq_true hn
  unfold exactR at h ⊢
  rw [if_pos hd, if_pos hn] at h ⊢
  unfold exactX at h ⊢
  cases hf : d.Circles.find? (fitC d n) with
  | none => rw [hf] at h; simp at h
  | some c =>
    have hc := List.mem_of_find?_eq_some hf
    have hm : d.Worm * c % n = 0 := of_decide_eq_true (show fitC d n c = true from List.find?_some hf)
    obtain ⟨e1, e2, e3, e4, e5, e6, e7, e8, e9⟩ := wc_in hd hc hq.1
    have w := (divB_iff hd).1
    have p2 : 2 ≤ d.Worm * c := by
      have := Int.mul_le_mul w.1 e4 (by omega) (by omega)
      omega
    have ee : d.Worm * c = n * (d.Worm * c / n) := (Int.mul_ediv_cancel' (Int.dvd_of_emod_eq_zero hm)).symm
    refine ⟨c, d.Worm * c / n, hc, ?_, ee, Int.ediv_le_self _ e2, by simp [hf]⟩
    rcases Int.lt_or_le (d.Worm * c / n) 1 with q | q
    · have : d.Worm * c / n = 0 := by omega
      rw [this] at ee; omega
    · exact q
theorem best_le {d : Divider_} {n : Int} {x : Index_} (hd : divB d = true) (n0 : 1 ≤ n) (n1 : n ≤ 2000) (hx : idxB d x = true) {i : Nat} (hi : i < d.Circles.length) (h2 : hN d n (d.Circles.getD i 0) ≠ 0) (h4 : ∀ j, j < d.Circles.length → hN d n (d.Circles.getD j 0) ≠ 0 → offN d n (d.Circles.getD i 0) * d.Circles.getD j 0 ≤ offN d n (d.Circles.getD j 0) * d.Circles.getD i 0) :
    offN d n (d.Circles.getD i 0) * x.Circle ≤ absI (errN d n x) * d.Circles.getD i 0 := by
  have hm : ∀ j, j < d.Circles.length → d.Circles.getD j 0 ∈ d.Circles := fun j hj => by rw [getD_lt hj]; exact List.getElem_mem hj
  have hxc : x.Circle ∈ d.Circles := by
    have h' := hx
    unfold idxB at h'
    simp only [Bool.and_eq_true] at h'
    exact has_mem.1 h'.2.1
  obtain ⟨j, hj, ej⟩ := List.getElem_of_mem hxc
  rw [← getD_lt hj] at ej
  have hci := near_c hd (hm i hi) n0 n1
  have hcx := near_c hd hxc n0 n1
  obtain ⟨_, _, _, _, s1, s2⟩ := idxB_iff hx
  by_cases hz : hN d n x.Circle = 0
  · have b1 := near_pr (a := d.Worm * x.Circle) n0
    have b2 := near_pr (a := d.Worm * d.Circles.getD i 0) n0
    have z1 : near (d.Worm * x.Circle) n = 0 := hz
    have z2 : 1 ≤ hN d n (d.Circles.getD i 0) := by omega
    rw [z1, Int.zero_mul] at b1
    have z3 : n ≤ near (d.Worm * d.Circles.getD i 0) n * n := by
      have := Int.mul_le_mul_of_nonneg_right z2 (show 0 ≤ n by omega)
      rw [Int.one_mul] at this; exact this
    have hw : d.Worm * x.Circle ≤ d.Worm * d.Circles.getD i 0 := by omega
    have hcc : x.Circle ≤ d.Circles.getD i 0 := Int.le_of_mul_le_mul_left hw (by have := (divB_iff hd).1; omega)
    have hn2 : n ≤ n * stepX x := by
      have := Int.mul_le_mul_of_nonneg_left s1 (show 0 ≤ n by omega)
      omega
    have he : offN d n (d.Circles.getD i 0) ≤ absI (errN d n x) := by
      unfold errN absI; omega
    exact Int.mul_le_mul he hcc (by omega) (absI_nn _)
  · have h5 := h4 j hj (by rw [ej]; exact hz)
    rw [ej] at h5
    have h6 : offN d n x.Circle ≤ absI (errN d n x) := near_best (a := d.Worm * x.Circle) (stepX x) n0
    have h7 := Int.mul_le_mul_of_nonneg_right h6 (show 0 ≤ d.Circles.getD i 0 by omega)
    omega
theorem cross_le {a b A B x y X Y g G : Int} (hg : 1 ≤ g) (hG : 1 ≤ G) (e1 : a * g = A) (e2 : b * g = B) (e3 : x * G = X) (e4 : y * G = Y) (h : A * Y ≤ X * B) : a * y ≤ x * b := by
  subst e1 e2 e3 e4
  have e : (a * y) * (g * G) ≤ (x * b) * (g * G) := by
    have f1 : a * g * (y * G) = (a * y) * (g * G) := by grind
    have f2 : x * G * (b * g) = (x * b) * (g * G) := by grind
    rw [← f1, ← f2]; exact h
  exact Int.le_of_mul_le_mul_right e (Int.mul_pos (by omega) (by omega))
theorem law_indexes (p0 : List Int) (k0 : osL osU8 p0) : l_FnIndexes_m p0 = some true := by
  unfold l_FnIndexes_m l_f6big_m
  rw [Option.bind_some]
  by_cases hb : 4096 < (p0.length : Int)
  · rw [if_pos (by simpa using hb)]
  · rw [if_neg (by simpa using hb)]
    have h2 : ∀ b ∈ p0, 0 ≤ b ∧ b ≤ 255 := k0.2
    obtain ⟨⟨d, n⟩, e1, q1⟩ := drawExact_ok (c := p0) (by omega) h2
    obtain ⟨⟨d', n', x⟩, e2, _⟩ := drawIndexE_ok (c := p0) (by omega) h2
    dsimp only at q1
    have hd : d.Circles.length ≤ 9223372036854775807 := by omega
    rw [e1, e2]
    unfold s_ValidDivider_m
    simp only [Option.bind_some, i_ExactIndex_eq hd, s_ExactIndex_eq hd, i_NearIndex_eq hd, s_NearIndex_eq hd, i_ValidDivider_eq hd, s_l24Ok_eq hd, ne_eq, not_true_eq_false, if_false, bne_self_eq_false, Bool.false_eq_true, i_IndexError_eq hd, i_ClosesAfter_eq hd, i_IndexText_eq hd, i_ValidIndex_eq hd]
    by_cases hv : divB d = true ∧ btw n 1 2000 = true
    · obtain ⟨hv, hn⟩ := hv
      have hq := of_decide_eq_true hn
      have inv := inv_all hv hq.1 hq.2 d.Circles.length (by omega)
      have hm : ∀ j, j < d.Circles.length → d.Circles.getD j 0 ∈ d.Circles := fun j hj => by rw [getD_lt hj]; exact List.getElem_mem hj
      have hnr : nearR d n = if (nearF d n d.Circles.length).2.Circle = 0 then (⟨0, 0, 0⟩, 3) else ((nearF d n d.Circles.length).2, 0) := by unfold nearR; rw [if_pos hv, if_pos hn]
      -- an exact motion
      have hex : (exactR d n).2 = 0 → (indErr d n (exactR d n).1).2 = 0 ∧ (indErr d n (exactR d n).1).1.Num = 0 ∧ closeR d (exactR d n).1 = (n, 0) ∧ ∃ j, j < d.Circles.length ∧ hN d n (d.Circles.getD j 0) ≠ 0 ∧ offN d n (d.Circles.getD j 0) = 0 := fun h => by
        obtain ⟨c, k, c1, c2, c3, c4, c5⟩ := exact_val hv hn h
        obtain ⟨m1, m2⟩ := mot_idx hv c1 c2 c4
        obtain ⟨i1, i2, i3⟩ := ind_val m1 hn
        have z : errN d n (motX k c) = 0 := by unfold errN; rw [m2]; show n * k - d.Worm * c = 0; omega
        rw [c5, i1]
        refine ⟨rfl, ?_, ?_, ?_⟩
        · exact (mkR_val (by omega) i2).2.2 z
        · unfold closeR
          rw [if_pos m1, m2]
          show (d.Worm * c / (Int.gcd (d.Worm * c) k : Int), (0 : Int)) = _
          have : Int.gcd (d.Worm * c) k = k.natAbs := by rw [c3]; exact Int.gcd_mul_left_left ..
          rw [this, c3, Int.natAbs_of_nonneg (by omega), Int.mul_ediv_cancel _ (by omega)]
        · obtain ⟨j, hj, ej⟩ := List.getElem_of_mem c1
          rw [← getD_lt hj] at ej
          have nb := near_best (a := d.Worm * c) k hq.1
          have hc := near_c hv c1 hq.1 hq.2
          have z0 : absI (n * k - d.Worm * c) = 0 := by rw [c3]; unfold absI; omega
          have z1 : offN d n c = 0 := by
            show absI (near (d.Worm * c) n * n - d.Worm * c) = 0
            have := absI_nn (near (d.Worm * c) n * n - d.Worm * c)
            omega
          refine ⟨j, hj, ?_, by rw [ej]; exact z1⟩
          rw [ej]
          intro h0
          unfold offN at z1
          rw [h0, Int.zero_mul] at z1
          unfold absI at z1
          omega
      rcases inv with ⟨v1, v2⟩ | ⟨i, v1, v2, v3, v4⟩
      · -- no motion at all
        have hz : nearR d n = (⟨0, 0, 0⟩, 3) := by rw [hnr, v1]; rfl
        have hne : ¬ (exactR d n).2 = 0 := fun h => by
          obtain ⟨_, _, _, j, j1, j2, _⟩ := hex h
          exact j2 (v2 j j1)
        rw [if_neg hne, hz]
        rfl
      · have hci := near_c hv (hm i v1) hq.1 hq.2
        have hz : nearR d n = (motX (hN d n (d.Circles.getD i 0)) (d.Circles.getD i 0), 0) := by
          rw [hnr, v3]
          exact if_neg (show ¬ d.Circles.getD i 0 = 0 by omega)
        obtain ⟨m1, m2⟩ := mot_idx hv (hm i v1) (by omega) hci.2.2.2.1.2
        obtain ⟨i1, i2, i3⟩ := ind_val m1 hn
        rw [hz]
        simp only [i1, not_true_eq_false, if_false]
        generalize hy : motX (hN d n (d.Circles.getD i 0)) (d.Circles.getD i 0) = y at *
        have hyc : y.Circle = d.Circles.getD i 0 := by rw [← hy]; rfl
        have hye : absI (errN d n y) = offN d n (d.Circles.getD i 0) := by
          unfold errN offN; rw [m2, hyc, Int.mul_comm]
        have hnum : (exactR d n).2 = 0 → (mkR (errN d n y) y.Circle).1.Num = 0 := fun h => by
          obtain ⟨_, _, _, j, j1, j2, j3⟩ := hex h
          have := v4 j j1 j2
          rw [j3, Int.zero_mul] at this
          refine (mkR_val (by omega) i2).2.2 ?_
          have hcj := near_c hv (hm j j1) hq.1 hq.2
          have z : offN d n (d.Circles.getD i 0) = 0 := by
            rcases Int.lt_or_le 0 (offN d n (d.Circles.getD i 0)) with q | q
            · have := Int.mul_pos q (show 0 < d.Circles.getD j 0 by omega)
              omega
            · omega
          rw [z] at hye
          unfold absI at hye
          omega
        have hread : i_ReadIndex_m d (idxT y) = some (y, true) := by
          obtain ⟨o1, o2, o3⟩ := idx_os m1
          obtain ⟨r, r1, r2, r3⟩ := i_ReadIndex_ok (d := d) (s := idxT y) (by omega) (by
            have s1 := decB_size o1
            have s2 := decB_size o2
            have s3 := decB_size o3
            unfold idxT
            have p1 : plusB.size = 1 := rfl
            have p2 : slashB.size = 1 := rfl
            simp only [ba_sz]
            omega)
          rw [r1, r3 y ⟨m1, rfl⟩]
        have hlast : ((if (indErr d n x).2 = 0 then ((l_f6size_m (indErr d n x).1.Num).bind fun v18 => ((l_f6size_m (mkR (errN d n y) y.Circle).1.Num).bind fun v19 => some (decide (w64 (v18 * (mkR (errN d n y) y.Circle).1.Den) < w64 (v19 * (indErr d n x).1.Den))))) else some false) : Option Bool) = some false := by
          split
          · rename_i hx
            have hx := ind_bad hx
            obtain ⟨j1, j2, j3⟩ := ind_val hx hn
            rw [j1]
            dsimp only
            have r1 := ratB_d (mkR_val (by omega) i2).1
            have r2 := ratB_d (mkR_val (by omega) j2).1
            rw [f6size_eq (by omega) (by omega), Option.bind_some, f6size_eq (by omega) (by omega), Option.bind_some]
            obtain ⟨g, g1, g2, g3⟩ := mkR_cross (by omega) i2
            obtain ⟨G, G1, G2, G3⟩ := mkR_cross (by omega) j2
            have hle : absI (mkR (errN d n y) y.Circle).1.Num * (mkR (errN d n x) x.Circle).1.Den ≤ absI (mkR (errN d n x) x.Circle).1.Num * (mkR (errN d n y) y.Circle).1.Den :=
              cross_le g1 G1 g2 g3 G2 G3 (by rw [hye, hyc]; exact best_le hv hq.1 hq.2 hx v1 v2 v4)
            generalize (mkR (errN d n y) y.Circle).1 = e at *
            generalize (mkR (errN d n x) x.Circle).1 = f at *
            have a1 : 0 ≤ absI e.Num ∧ absI e.Num ≤ 1000000000 := ⟨absI_nn _, by unfold absI; omega⟩
            have a2 : 0 ≤ absI f.Num ∧ absI f.Num ≤ 1000000000 := ⟨absI_nn _, by unfold absI; omega⟩
            have p1 := prod_in (a := absI f.Num) (b := e.Den) (A := 1000000000) (B := 1000000000) a2.1 a2.2 (by omega) (by omega)
            have p2 := prod_in (a := absI e.Num) (b := f.Den) (A := 1000000000) (B := 1000000000) a1.1 a1.2 (by omega) (by omega)
            rw [w64_in (by omega) (by omega), w64_in (by omega) (by omega), decide_eq_false (by omega)]
          · rfl
        simp only [hlast, Option.bind_some, Bool.false_eq_true, if_false, m1, if_true, hread]
        by_cases hx0 : (exactR d n).2 = 0
        · obtain ⟨x1, x2, x3, _⟩ := hex hx0
          have hn0 := hnum hx0
          simp [hx0, x1, x2, x3, hn0, orE]
        · simp [hx0, orE]
    · have h3 : (nearR d n).2 ≠ 0 ∧ (exactR d n).2 ≠ 0 := by
        unfold nearR exactR
        cases hd1 : divB d
        · exact ⟨by simp, by simp⟩
        · cases hn1 : btw n 1 2000
          · exact ⟨by simp, by simp⟩
          · exact absurd ⟨hd1, hn1⟩ hv
      rw [if_neg h3.2]
      simp [orE, h3.1]
end Go.Proofs.YtjhadibjjldpdaaDoor
namespace Go.Proofs.YtjhadibjjldpdaaDoor
open Go.ChangeShapes Go.WideShapes Go.ChangeAt Go.RowKit
set_option linter.unusedVariables false
set_option maxRecDepth 100000
theorem var_block {W : World} {n : String} {g : Nat} {cs : Array Value} (hg : Tryd.prog.globalNamed n = some g) (h : W.var? Tryd.prog n = some cs) : ∃ t f, W.heap[g]? = some (.cells cs t f) ∧ g < W.heap.size := by
  unfold World.var? at h
  rw [hg] at h
  simp only [Option.bind_some] at h
  split at h
  · rename_i cs' t f hh
    cases h
    exact ⟨t, f, hh, (Array.getElem?_eq_some_iff.1 hh).1⟩
  · cases h
def litV : DataW Unit → Value
  | .lit (.int k z) => .int k z
  | _ => .bool false
def valsOf : DataW Unit → Array Value
  | .agg l => (l.map litV).toArray
  | _ => #[]
def putV (cs : Array Value) : Obj → Obj
  | .cells _ t f => .cells cs t f
  | o => o
theorem pow_tab : (Rows.laid_internal_strconv_uint64pow10 : DataW Unit) = Lib.tabData .u64 Lib.pow10Tab := by kernel_rfl
def laidList : List (String × DataW Unit) := [("math/bits.deBruijn32tab", Rows.laid_math_bits_deBruijn32tab), ("math/bits.deBruijn64tab", Rows.laid_math_bits_deBruijn64tab), ("internal/strconv.uint64pow10", Rows.laid_internal_strconv_uint64pow10), ("strconv.ErrRange", Rows.laid_strconv_ErrRange), ("strconv.ErrSyntax", Rows.laid_strconv_ErrSyntax)]
theorem tab_named : Tryd.prog.globalNamed "internal/strconv.uint64pow10" = some 3 := by kernel_rfl
theorem glob_tab {W : World} {rest : List (String × DataW Unit)} (h : laidMet Tryd.prog (("internal/strconv.uint64pow10", Rows.laid_internal_strconv_uint64pow10) :: rest) W) :
    (fun b => b < W.heap.size) 3 ∧ (tabG 3 (Lib.pow10Tab.map fun z => Value.int .u64 z)).p W := by
  rw [pow_tab] at h
  have := Lib.tabIs_of_head (t := 134) (e := 48) (n := 20) tab_named (by kernel_rfl) Tryd.underlying134 Tryd.underlying48 (by kernel_rfl) (by kernel_rfl) h
  obtain ⟨t, f, h1, h2⟩ := var_block tab_named this
  exact ⟨h2, t, f, h1⟩
theorem star_err : "*" ++ "errors.errorString" = "*errors.errorString" := by decide
theorem only_err (u : TypeId) (h : Tryd.prog.typeName? 3 u = some "*errors.errorString") : u = 139 :=
  typeName_ptr_named (nm := "errors.errorString") (by rw [star_err]; kernel_rfl) (by kernel_rfl) (by decide) u (by rw [star_err]; exact h)
theorem err_here {n nm : String} {text : List UInt8} {rest : List (String × DataW Unit)} {W : World} {g : Nat} {ti tp te ts : TypeId} {ms : Array (String × TypeId)} {f : Field} (h : laidMet Tryd.prog ((n, .iface nm (.ptr (.agg [.lit (.string text)]))) :: rest) W)
    (hg : Tryd.prog.globalNamed n = some g) (ht : (Tryd.prog.globals[g]?).map (·.type) = some ti) (hi : Tryd.prog.underlying ti = some (.interface ms)) (hrow : ∀ u, Tryd.prog.typeName? 3 u = some nm → u = tp)
    (hp : Tryd.prog.underlying tp = some (.pointer te)) (he : Tryd.prog.underlying te = some (.struct #[f])) (hft : f.type = ts) (hfo : f.offset = 0) (hs : Tryd.prog.underlying ts = some .string) (hc : Tryd.prog.cellsOf te = 1) (hcs : Tryd.prog.cellsOf ts = 1) :
    (fun b => b < W.heap.size) g ∧ (errG g).p W := by
  obtain ⟨a, s, h1, _⟩ := laid_sentinel h hg ht hi hrow hp he hft hfo hs hc hcs
  obtain ⟨t, f, h2, h3⟩ := var_block hg h1
  exact ⟨h3, tp, .pointer (some a), t, f, h2⟩
theorem glob_of_laid {W : World} (h : laidMet Tryd.prog laidList W) : Glob (fun b => b < W.heap.size) W := by
  intro x hx
  simp only [globs, List.mem_cons, List.not_mem_nil, or_false] at hx
  rcases hx with rfl | rfl | rfl
  · exact glob_tab h.tail.tail
  · exact err_here (ti := 94) (tp := 139) (te := 141) h.tail.tail.tail (by kernel_rfl) (by kernel_rfl) Tryd.underlying94 (fun u hu => only_err u hu) (by kernel_rfl) Tryd.underlying141 rfl rfl (by kernel_rfl) (by kernel_rfl) (by kernel_rfl)
  · exact err_here (ti := 94) (tp := 139) (te := 141) h.tail.tail.tail.tail (by kernel_rfl) (by kernel_rfl) Tryd.underlying94 (fun u hu => only_err u hu) (by kernel_rfl) Tryd.underlying141 rfl rfl (by kernel_rfl) (by kernel_rfl) (by kernel_rfl)
def textOf : DataW Unit → Value
  | .iface _ (.ptr (.agg [.lit (.string t)])) => .string ⟨t.toArray⟩
  | _ => .bool false
noncomputable def laidWorld (os : Os) : World :=
  let w0 := World.holding Tryd.prog os ⟨#[], #[], []⟩
  let h1 := ((w0.heap.modify 4 (putV (valsOf Rows.laid_math_bits_deBruijn32tab))).modify 5 (putV (valsOf Rows.laid_math_bits_deBruijn64tab))).modify 3 (putV (valsOf Rows.laid_internal_strconv_uint64pow10))
  let b := h1.size
  { w0 with heap := (((h1.push (.cells #[textOf Rows.laid_strconv_ErrRange] 141)).push (.cells #[textOf Rows.laid_strconv_ErrSyntax] 141)).modify 2 (putV #[.iface 139 (.pointer (some ⟨b, 0, none⟩))])).modify 1 (putV #[.iface 139 (.pointer (some ⟨b + 1, 0, none⟩))]) }
theorem laidWorld_met (os : Os) (args : Array Value) : laidMet Tryd.prog laidList ((laidWorld os).forCall (fun _ _ => 0) ⟨#[], args, []⟩).memory :=
  laidMet_of_run' 8 (by kernel_rfl) (by kernel_rfl)
end Go.Proofs.YtjhadibjjldpdaaDoor
