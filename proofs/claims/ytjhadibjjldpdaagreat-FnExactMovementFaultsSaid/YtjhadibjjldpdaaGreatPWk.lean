/- Plain laws, Wk: valid works. No program. -/
import Derived.Test.YtjhadibjjldpdaaGreatPN
import Derived.Test.YtjhadibjjldpdaaGreatPC
namespace Go.Proofs.YtjhadibjjldpdaaGreat
set_option linter.unusedVariables false
def toothB (t : Int) : Bool := btw t 6 240
theorem i_toothed_eq (t : Int) : i_toothed_m t = some (toothB t) := by unfold i_toothed_m; rw [i_within_eq]; rfl
theorem s_l05Teeth_eq (t : Int) : s_l05Teeth_m t = some (toothB t) := by unfold s_l05Teeth_m; rw [s_l00In_eq]; rfl
def arbB (a : Arbor_) : Bool := a.Wheels.all toothB && (nameB a.Name && decide (a.Wheels.length ≤ 5))
theorem len5 {α : Type} {l : List α} {k : Nat} : decide ((l.length : Int) ≤ (k : Int)) = decide (l.length ≤ k) := by rw [decide_eq_decide]; omega
theorem i_validArbor_eq {a : Arbor_} (hl : a.Wheels.length ≤ 9223372036854775807) : i_validArbor_m a = some (arbB a) := by
  unfold i_validArbor_m arbB
  rw [scanG (fun _ v => toothB v) hl fun i hi => by rw [atI_lt hi, Option.bind_some, i_toothed_eq, Option.bind_some]; cases toothB a.Wheels[i] <;> rfl, allI_all, Option.bind_some, i_IsName_eq]
  cases a.Wheels.all toothB <;> cases nameB a.Name <;> simp [orE]; omega
theorem s_l08Arbor_eq {a : Arbor_} (hl : a.Wheels.length ≤ 9223372036854775807) : s_l08Arbor_m a = some (arbB a) := by
  unfold s_l08Arbor_m arbB
  rw [scanG (fun _ v => toothB v) hl fun i hi => by rw [atI_lt hi, Option.bind_some, s_l05Teeth_eq, Option.bind_some]; cases toothB a.Wheels[i] <;> rfl, allI_all, Option.bind_some, s_IsName_eq]
  cases a.Wheels.all toothB <;> cases nameB a.Name <;> simp [orE]; omega
/-- there is such a wheel -/
def whB (w : Works_) (a k : Int) : Bool := decide (0 ≤ a ∧ a < w.Arbors.length) && match w.Arbors[a.toNat]? with
  | some b => decide (0 ≤ k ∧ k < b.Wheels.length)
  | none => false
theorem btw_len {α : Type} {l : List α} {a : Int} (hl : l.length ≤ 9223372036854775807) : btw a 0 (w64 ((l.length : Int) - 1)) = decide (0 ≤ a ∧ a < l.length) := by
  rw [w64_in (by omega) (by omega)]
  unfold btw
  rw [decide_eq_decide]; omega
theorem wheel_tail {w : Works_} {a k : Int} (hl : w.Arbors.length ≤ 9223372036854775807) (hw : ∀ b ∈ w.Arbors, b.Wheels.length ≤ 9223372036854775807) {f : Arbor_ → Option Bool} (hf : ∀ b ∈ w.Arbors, f b = some (decide (0 ≤ k ∧ k < b.Wheels.length))) :
    (if decide (0 ≤ a ∧ a < w.Arbors.length) = true then ((atI w.Arbors a).bind f) else some false) = some (whB w a k) := by
  unfold whB
  by_cases h : 0 ≤ a ∧ a < w.Arbors.length
  · obtain ⟨e, he, hm, hg⟩ := atI_some h.1 h.2
    rw [decide_eq_true h, if_pos rfl, he, Option.bind_some, hf e hm, hg]; rfl
  · rw [decide_eq_false h]; rfl
theorem i_hasWheel_eq {w : Works_} (hl : w.Arbors.length ≤ 9223372036854775807) (hw : ∀ b ∈ w.Arbors, b.Wheels.length ≤ 9223372036854775807) (a k : Int) : i_hasWheel_m w a k = some (whB w a k) := by
  unfold i_hasWheel_m
  rw [i_within_eq, Option.bind_some, btw_len hl]
  exact wheel_tail hl hw fun b hb => by rw [i_within_eq, Option.bind_some, btw_len (hw b hb)]
theorem s_l08Wheel_eq {w : Works_} (hl : w.Arbors.length ≤ 9223372036854775807) (hw : ∀ b ∈ w.Arbors, b.Wheels.length ≤ 9223372036854775807) (a k : Int) : s_l08Wheel_m w a k = some (whB w a k) := by
  unfold s_l08Wheel_m
  rw [s_l00In_eq, Option.bind_some, btw_len hl]
  exact wheel_tail hl hw fun b hb => by rw [s_l00In_eq, Option.bind_some, btw_len (hw b hb)]
def joinB (w : Works_) (m : Mesh_) : Bool := decide (m.A ≠ m.B) && (whB w m.A m.WheelA && whB w m.B m.WheelB)
theorem i_joins_eq {w : Works_} (hl : w.Arbors.length ≤ 9223372036854775807) (hw : ∀ b ∈ w.Arbors, b.Wheels.length ≤ 9223372036854775807) (m : Mesh_) : i_joins_m w m = some (joinB w m) := by
  unfold i_joins_m joinB
  simp only [i_hasWheel_eq hl hw, Option.bind_some]
  by_cases h : m.A = m.B <;> cases whB w m.A m.WheelA <;> simp [h]
theorem s_l08Mesh_eq {w : Works_} (hl : w.Arbors.length ≤ 9223372036854775807) (hw : ∀ b ∈ w.Arbors, b.Wheels.length ≤ 9223372036854775807) (m : Mesh_) : s_l08Mesh_m w m = some (joinB w m) := by
  unfold s_l08Mesh_m joinB
  simp only [s_l08Wheel_eq hl hw, Option.bind_some]
  by_cases h : m.A = m.B <;> cases whB w m.A m.WheelA <;> simp [h]
/-- the two meshes are of the same wheels -/
def sameB (m n : Mesh_) : Bool := decide (m = n ∨ m = ⟨n.B, n.WheelB, n.A, n.WheelA⟩)
theorem sameB_comm (m n : Mesh_) : sameB m n = sameB n m := by
  unfold sameB
  rw [decide_eq_decide]
  obtain ⟨a, b, c, d⟩ := m
  obtain ⟨a', b', c', d'⟩ := n
  simp only [Mesh_.mk.injEq]
  omega
theorem i_sameMesh_eq (m n : Mesh_) : i_sameMesh_m m n = some (sameB m n) := by
  unfold i_sameMesh_m sameB
  by_cases h : m = n
  · simp [h]
  · rw [if_neg h]; simp [h]
theorem s_l08Equal_eq (m n : Mesh_) : s_l08Equal_m m n = some (sameB m n) := by
  unfold s_l08Equal_m sameB
  by_cases h : m = n
  · simp [h]
  · rw [if_neg h]
    obtain ⟨a, b, c, d⟩ := m
    obtain ⟨a', b', c', d'⟩ := n
    have e : decide ((⟨a, b, c, d⟩ : Mesh_) = ⟨a', b', c', d'⟩ ∨ (⟨a, b, c, d⟩ : Mesh_) = ⟨c', d', a', b'⟩) = decide (a = c' ∧ b = d' ∧ c = a' ∧ d = b') := by
      rw [decide_eq_decide]
      simp only [h, false_or, Mesh_.mk.injEq]
    dsimp only
    rw [e]
    by_cases h1 : a = c' <;> by_cases h2 : b = d' <;> by_cases h3 : c = a' <;> simp [h1, h2, h3]
/-- valid works -/
def wksB (w : Works_) : Bool := decide (w.Arbors.length ≤ 16) && (decide (w.Meshes.length ≤ 24) && (allI w.Arbors (fun i a => arbB a && !((w.Arbors.take i).any fun b => decide (b.Name = a.Name))) && allI w.Meshes (fun i m => joinB w m && !((w.Meshes.take i).any fun n => sameB m n))))
theorem i_knownMesh_eq {xs : List Mesh_} {m : Mesh_} (hl : xs.length ≤ 9223372036854775807) : slices_ContainsFunc_LMesh_Mesh_i_ValidWorks_1_m xs m = some (xs.any fun n => sameB m n) := by
  unfold slices_ContainsFunc_LMesh_Mesh_i_ValidWorks_1_m slices_IndexFunc_LMesh_Mesh_i_ValidWorks_1_m
  rw [findG (fun n => sameB m n) hl fun i hi => by rw [atI_lt hi, Option.bind_some, i_ValidWorks_1_m, i_sameMesh_eq, Option.bind_some, Option.bind_some], Option.bind_some, posOf_nn]
theorem i_ValidWorks_eq {w : Works_} (hl : w.Arbors.length ≤ 9223372036854775807) (hw : ∀ b ∈ w.Arbors, b.Wheels.length ≤ 9223372036854775807) (hm : w.Meshes.length ≤ 9223372036854775807) : i_ValidWorks_m w = some (wksB w) := by
  unfold i_ValidWorks_m wksB
  by_cases h1 : w.Arbors.length ≤ 16
  · by_cases h2 : w.Meshes.length ≤ 24
    · rw [if_neg (by omega), Option.bind_some, decide_eq_false (by omega), if_neg (by decide), decide_eq_true h1, decide_eq_true h2,
        scanG (e := .inr false) (fun i a => arbB a && !((w.Arbors.take i).any fun b => decide (b.Name = a.Name))) hl fun i hi => ?_, Option.bind_some,
        scanG (e := .inr false) (fun i m => joinB w m && !((w.Meshes.take i).any fun n => sameB m n)) hm fun i hi => ?_, Option.bind_some]
      · cases allI w.Arbors (fun i a => arbB a && !((w.Arbors.take i).any fun b => decide (b.Name = a.Name))) <;> cases allI w.Meshes (fun i m => joinB w m && !((w.Meshes.take i).any fun n => sameB m n)) <;> rfl
      · rw [atI_lt hi, Option.bind_some, i_joins_eq hl hw, Option.bind_some, chk_t (subL_ok (by omega)), subL0, i_knownMesh_eq (by rw [List.length_take]; omega)]
        cases joinB w w.Meshes[i] <;> cases ((w.Meshes.take i).any fun n => sameB w.Meshes[i] n) <;> rfl
      · rw [atI_lt hi, Option.bind_some, i_validArbor_eq (hw _ (List.getElem_mem hi)), Option.bind_some, chk_t (subL_ok (by omega)), subL0,
          scanG (fun _ b => !decide (b.Name = w.Arbors[i].Name)) (by rw [List.length_take]; omega) fun j hj => by
            rw [atI_lt hj, Option.bind_some]
            by_cases q : w.Arbors[i].Name = (w.Arbors.take i)[j].Name
            · rw [if_pos q, decide_eq_true q.symm]; rfl
            · rw [if_neg q, decide_eq_false (Ne.symm q)]; rfl, allI_all]
        have e : ((w.Arbors.take i).all fun b => !decide (b.Name = w.Arbors[i].Name)) = !((w.Arbors.take i).any fun b => decide (b.Name = w.Arbors[i].Name)) := by rw [Bool.eq_iff_iff]; simp
        rw [e]
        cases arbB w.Arbors[i] <;> cases ((w.Arbors.take i).any fun b => decide (b.Name = w.Arbors[i].Name)) <;> rfl
    · rw [if_neg (by omega), Option.bind_some, decide_eq_true (by omega), if_pos rfl, decide_eq_false h2, decide_eq_true h1]; rfl
  · rw [if_pos (by omega), Option.bind_some, if_pos rfl, decide_eq_false h1]; rfl
theorem s_l08Find_eq {w : Works_} (hl : w.Arbors.length ≤ 9223372036854775807) (s : ByteArray) : s_l08Find_m w s = some (posOf w.Arbors fun a => decide (a.Name = s)) := by
  unfold s_l08Find_m
  rw [findG (fun a => decide (a.Name = s)) hl fun i hi => by rw [atI_lt hi, Option.bind_some]; by_cases q : w.Arbors[i].Name = s <;> simp [q]]
theorem s_l08Known_eq {w : Works_} (hm : w.Meshes.length ≤ 9223372036854775807) (m : Mesh_) {k : Nat} (hk : k ≤ w.Meshes.length) : s_l08Known_m w m (k : Int) = some ((w.Meshes.take k).any fun n => sameB m n) := by
  unfold s_l08Known_m
  rw [scanT k (fun _ n => !sameB m n) hk hm fun i hi _ => by rw [atI_lt hi, Option.bind_some, s_l08Equal_eq, Option.bind_some, sameB_comm]; cases sameB m w.Meshes[i] <;> rfl, allI_all, Option.bind_some]
  have e : ((w.Meshes.take k).all fun n => !sameB m n) = !((w.Meshes.take k).any fun n => sameB m n) := by rw [Bool.eq_iff_iff]; simp
  rw [e]
  cases ((w.Meshes.take k).any fun n => sameB m n) <;> rfl
theorem s_l08Ok_eq {w : Works_} (hl : w.Arbors.length ≤ 9223372036854775807) (hw : ∀ b ∈ w.Arbors, b.Wheels.length ≤ 9223372036854775807) (hm : w.Meshes.length ≤ 9223372036854775807) : s_l08Ok_m w = some (wksB w) := by
  unfold s_l08Ok_m wksB
  rw [scanG (e := .inr false) (fun i a => arbB a && !((w.Arbors.take i).any fun b => decide (b.Name = a.Name))) hl fun i hi => ?_, Option.bind_some,
      scanG (e := .inr false) (fun i m => joinB w m && !((w.Meshes.take i).any fun n => sameB m n)) hm fun i hi => ?_, Option.bind_some]
  · have e1 : decide ((w.Meshes.length : Int) ≤ 24) = decide (w.Meshes.length ≤ 24) := by rw [decide_eq_decide]; omega
    have e2 : (if (w.Arbors.length : Int) ≤ 16 then some (decide ((w.Meshes.length : Int) ≤ 24)) else some false) = some (decide (w.Arbors.length ≤ 16) && decide (w.Meshes.length ≤ 24)) := by
      rw [e1]
      by_cases h1 : w.Arbors.length ≤ 16
      · rw [if_pos (by omega), decide_eq_true h1, Bool.true_and]
      · rw [if_neg (by omega), decide_eq_false h1]; rfl
    rw [e2]
    cases allI w.Arbors (fun i a => arbB a && !((w.Arbors.take i).any fun b => decide (b.Name = a.Name))) <;> cases allI w.Meshes (fun i m => joinB w m && !((w.Meshes.take i).any fun n => sameB m n)) <;> cases decide (w.Arbors.length ≤ 16) <;> cases decide (w.Meshes.length ≤ 24) <;> rfl
  · simp only [atI_lt hi, Option.bind_some, s_l08Mesh_eq hl hw, s_l08Known_eq hm _ (Nat.le_of_lt hi)]
    cases joinB w w.Meshes[i] <;> cases ((w.Meshes.take i).any fun n => sameB w.Meshes[i] n) <;> rfl
  · simp only [atI_lt hi, Option.bind_some, s_l08Arbor_eq (hw _ (List.getElem_mem hi)), s_l08Find_eq hl, posOf_here (p := fun a => decide (a.Name = w.Arbors[i].Name)) hi (decide_eq_true rfl)]
    cases arbB w.Arbors[i] <;> cases ((w.Arbors.take i).any fun b => decide (b.Name = w.Arbors[i].Name)) <;> rfl
end Go.Proofs.YtjhadibjjldpdaaGreat
