/- An abstract machine, U: texts and rows of bytes. No program. -/
import Derived.Test.YtjhadibjjldpdaaGreatAmS
import Derived.Laws.IdiomStrings
import Derived.Laws.BytesArg
namespace Go.Proofs.YtjhadibjjldpdaaGreat
open Go.RowKit
set_option linter.unusedVariables false
set_option maxRecDepth 100000
def bytesL (s : ByteArray) : List Int := s.data.toList.map fun b => (b.toNat : Int)
theorem bytesL_len (s : ByteArray) : (bytesL s).length = s.size := by simp [bytesL]
section
variable {P : Program} {T : Tab} {L N : Nat} {ops : Array Oper} {E : Env} {K : List (Nat × Cls) → AS → Prop} {i : Nat} {is : List Nat} {t : Nat → AV} {h h' : Heap} {d : Tmp} {dst : Option Tmp} {op : Op} {ty : TypeId} {pos : String} {aft : Array Edge} {g : Option (Nat × Bool)} {Q : AExit → AS → Prop} {σ : AS} {x y : Operand}

theorem cv_sb (hT : TOk P T) {st_ dt e : TypeId} {s : ByteArray} {d1 d2 d3 : TI} (hb : s.size ≤ 140737488355328) (hx : evA N ⟨t, h⟩ x = .d (.v (.string s))) (h1 : T st_ = some d1) (e1 : d1.desc = .string) (h2 : T dt = some d2) (e2 : d2.desc = .slice e) (h3 : T e = some d3) (e3 : d3.desc = .int .u8) :
    Heavy1 P N ⟨some d, .convert st_ dt x, ty, pos, aft, g⟩ ⟨t, h⟩ (.d (.sl ((bytesL s).map cU8))) h ∧ ∀ k', h k' ≠ .no → h k' = h k' := by
  refine ⟨fun E F μ w ρ H st => ?_, fun _ _ => rfl⟩
  have f1 := rep_v (by have := st x (by simp [Op.operands]); rw [hx] at this; exact this)
  have u1 := (hT _ _ h1).1
  rw [e1] at u1
  have u2 := (hT _ _ h2).1
  rw [e2] at u2
  have u3 := (hT _ _ h3).1
  rw [e3] at u3
  have hrun := run_bytes_of_string (P := P) w st_ dt e s u1 u2 u3
  have e4 : (execOp ρ ⟨some d, .convert st_ dt x, ty, pos, aft, g⟩).run P w = .ok (.value (.slice (some ⟨w.heap.size, 0, none⟩) s.size (grownCap w s.size 0 e))) (w.drew.alloc (.cells (bytesRow s (grownCap w s.size 0 e)) e ((bytesRow s (grownCap w s.size 0 e)).size, (bytesRow s (grownCap w s.size 0 e)).size + 1))) := by
    simp only [execOp, f1]
    rw [Sem.run_bind, hrun]; rfl
  rw [e4]
  have hge := grownCap_ge w s.size 0 e
  have hcm := grownCap_le_maxLen w s.size 0 e (by unfold maxLen; omega)
  obtain ⟨H1, V1⟩ := H.drew
  obtain ⟨H', V⟩ := H1.ice (.cells (bytesRow s (grownCap w s.size 0 e)) e ((bytesRow s (grownCap w s.size 0 e)).size, (bytesRow s (grownCap w s.size 0 e)).size + 1))
  refine ⟨_, μ, H', V1.trans V, .d _ _ ?_⟩
  have hl : ((bytesL s).map cU8).length = s.size := by rw [List.length_map, bytesL_len]
  have hat : ∀ (q : Nat) (ed : List DV), ((bytesL s).map cU8)[q]? = some ed → ∃ b : UInt8, s.data[q]? = some b ∧ ed = [.v (.int .u8 (b.toNat : Int))] := fun q ed hq => by
    simp only [List.getElem?_map, bytesL] at hq
    obtain ⟨v, hv, rfl⟩ := Option.map_eq_some_iff.1 hq
    obtain ⟨b, hb, rfl⟩ := Option.map_eq_some_iff.1 hv
    exact ⟨b, by simpa using hb, rfl⟩
  have hsl : DRep (w.drew.alloc (.cells (bytesRow s (grownCap w s.size 0 e)) e ((bytesRow s (grownCap w s.size 0 e)).size, (bytesRow s (grownCap w s.size 0 e)).size + 1))) (fun b => F b ∨ b = w.drew.heap.size) (.slice (some ⟨w.heap.size, 0, none⟩) ((bytesL s).map cU8).length (grownCap w s.size 0 e)) (.sl ((bytesL s).map cU8)) := by
    refine .sl w.heap.size 0 _ 1 _ (fun i j => .int .u8 (((s.data[i]?).getD 0).toNat : Int)) (.inr rfl) (by omega) hcm (fun q ed hq => ?_) (fun q ed j v hq hv => ?_) (fun q ed j v hq hv => ?_)
    · obtain ⟨b, _, rfl⟩ := hat q ed hq; rfl
    · obtain ⟨b, hb, rfl⟩ := hat q ed hq
      have hj : j = 0 := by
        cases j with
        | zero => rfl
        | succ j => simp at hv
      subst hj
      have hcr := cell_of_row _ w.heap.size (0 + q * 1 + 0) (bytesRow s (grownCap w s.size 0 e)) e _ (Go.heap_alloc_new w.drew (.cells (bytesRow s (grownCap w s.size 0 e)) e ((bytesRow s (grownCap w s.size 0 e)).size, (bytesRow s (grownCap w s.size 0 e)).size + 1)))
      rw [hcr]
      have hlt : q < s.data.size := (Array.getElem?_eq_some_iff.1 hb).1
      simp only [Nat.zero_add, Nat.mul_one, Nat.add_zero, bytesRow, hb, Option.getD_some]
      rw [Array.getElem?_append_left (by simpa using hlt), Array.getElem?_map, hb]; rfl
    · obtain ⟨b, hb, rfl⟩ := hat q ed hq
      have hj : j = 0 := by
        cases j with
        | zero => rfl
        | succ j => simp at hv
      subst hj
      simp at hv
      subst hv
      simp only [hb, Option.getD_some]
      exact .v _ rfl
  rw [hl] at hsl
  exact hsl
theorem cv_reads (hT : TOk P T) {st_ dt e : TypeId} {xs : List Int} {d1 d2 d3 : TI} (h1 : T st_ = some d1) (e1 : d1.desc = .slice e) (h2 : T dt = some d2) (e2 : d2.desc = .string) (h3 : T e = some d3) (e3 : d3.desc = .int .u8) {F : Nat → Prop} {μ : Places} {hh : Heap} {w : World} {v : Value}
    (hr : ReadsAs w F μ hh v 1 (.data (xs.map cU8))) : (convert st_ dt v).run P w = .ok (.string (strOfNums xs)) w := by
  have u1 := (hT _ _ h1).1
  rw [e1] at u1
  have u2 := (hT _ _ h2).1
  rw [e2] at u2
  have u3 := (hT _ _ h3).1
  rw [e3] at u3
  obtain ⟨A, c, rfl, hrd⟩ := hr
  have hlen : (Cells.data (xs.map cU8)).len = xs.length := rows_len
  rcases hrd with h0 | ⟨b, off, rfl, hrd⟩
  · rw [hlen] at h0
    have : xs = [] := List.eq_nil_of_length_eq_zero h0
    subst this
    cases A with
    | none => rw [run_convert_bytes_nil w st_ e u1 u3 _ _ dt u2]; rfl
    | some a =>
      have := run_convert_bytes_string (P := P) w st_ dt e (some a) 0 c u1 u3 u2
      have e4 := run_bytesToString (P := P) w a 0 c [] (by have := run_loadCells_list (P := P) w a [] (fun j v hv => by simp at hv); simpa using this)
      simp only [Cells.len, List.map_nil, List.length_nil] at *
      rw [this, e4]; rfl
  · rw [hlen]
    refine run_convert_bytes_arg w st_ e u1 u3 b off xs.length c xs rfl (fun q hq => ?_) dt u2
    obtain ⟨_, h5⟩ := hrd q ((cU8 xs[q]).map .d) (rows_get (List.getElem?_eq_getElem hq))
    obtain ⟨u, hu, _, hr⟩ := h5 0 (.d (.v (.int .u8 xs[q]))) rfl
    have hru : u = .int .u8 xs[q] := rep_v hr
    rw [Nat.mul_one, Nat.add_zero] at hu
    rw [hu, hru]
    simp [List.getD, List.getElem?_eq_getElem hq]
theorem cv_bs (hT : TOk P T) {st_ dt e : TypeId} {xs : List Int} {d1 d2 d3 : TI} (hx : evA N ⟨t, h⟩ x = .d (.sl (xs.map cU8))) (h1 : T st_ = some d1) (e1 : d1.desc = .slice e) (h2 : T dt = some d2) (e2 : d2.desc = .string) (h3 : T e = some d3) (e3 : d3.desc = .int .u8) :
    Pure1 P N ⟨some d, .convert st_ dt x, ty, pos, aft, g⟩ ⟨t, h⟩ (.d (.v (.string (strOfNums xs)))) := fun w F μ hh ρ st => by
  have hr := st x (by simp [Op.operands])
  rw [hx] at hr
  have := cv_reads (P := P) hT h1 e1 h2 e2 h3 e3 (reads_sl hr fun e he => by obtain ⟨_, _, rfl⟩ := List.mem_map.1 he; rfl)
  refine ⟨_, ?_, .d _ _ (.v _ rfl)⟩
  simp only [execOp]
  rw [Sem.run_bind, this]; rfl
theorem cv_bo (hT : TOk P T) {st_ dt e bt : TypeId} {k n sz : Nat} {xs : List Int} {d1 d2 d3 : TI} (hx : evA N ⟨t, h⟩ x = .own k 0 n) (h1 : T st_ = some d1) (e1 : d1.desc = .slice e) (h2 : T dt = some d2) (e2 : d2.desc = .string) (h3 : T e = some d3) (e3 : d3.desc = .int .u8) (hk : h k = .live [⟨bt, sz, .data (xs.map cU8)⟩]) (hn : n = xs.length) (hs : sz = 1) :
    Heavy1 P N ⟨some d, .convert st_ dt x, ty, pos, aft, g⟩ ⟨t, h⟩ (.d (.v (.string (strOfNums xs)))) h ∧ ∀ k', h k' ≠ .no → h k' = h k' := by
  subst hn hs
  refine ⟨fun E F μ w ρ H st => ?_, fun _ _ => rfl⟩
  have hr := st x (by simp [Op.operands])
  rw [hx] at hr
  have := cv_reads (P := P) hT h1 e1 h2 e2 h3 e3 (reads_own H hr (lv_of hk) rows_len trivial)
  have e4 : (execOp ρ ⟨some d, .convert st_ dt x, ty, pos, aft, g⟩).run P w = .ok (.value (.string (strOfNums xs))) w := by
    simp only [execOp]
    rw [Sem.run_bind, this]; rfl
  rw [e4]
  exact ⟨F, μ, H, Evo.refl_, .d _ _ (.v _ rfl)⟩
theorem rt_wkd {k0 : Nat} {s : Slot} {r : AV} (ho : ops[i]? = some ⟨some d, op, ty, pos, aft, g⟩) (hw : Want N ops ⟨some d, op, ty, pos, aft, g⟩ ⟨t, h⟩) (hd : Nat.blt d N = true) (hp : Heavy1 P N ⟨some d, op, ty, pos, aft, g⟩ ⟨t, h⟩ r (upd h k0 s))
    (k : RT P N ops is (fun l σ' => K ((i, .wk k0) :: l) σ') ⟨updA t d r, upd h k0 s⟩) : RT P N ops (i :: is) K ⟨t, h⟩ := rt_cons ho (.wk k0 (dN hd) hw r _ hp fun p hp => upd_ne _ _ hp) k
def andK (k : IntKind) (a b : Int) : Int := k.wrap ((BitVec.ofInt k.bits a &&& BitVec.ofInt k.bits b).toNat : Int)
def orK (k : IntKind) (a b : Int) : Int := k.wrap ((BitVec.ofInt k.bits a ||| BitVec.ofInt k.bits b).toNat : Int)
def shrK (k : IntKind) (a b : Int) : Int := a.fdiv (2 ^ min b.toNat k.bits)
def shlK (k : IntKind) (a b : Int) : Int := k.wrap (a * 2 ^ min b.toNat k.bits)
theorem pu_and {k : IntKind} {a b : Int} {xt yt : TypeId} (hx : evA N ⟨t, h⟩ x = .d (.v (.int k a))) (hy : evA N ⟨t, h⟩ y = .d (.v (.int k b))) : Pure1 P N ⟨some d, .binOp .and xt x y yt, ty, pos, aft, g⟩ ⟨t, h⟩ (.d (.v (.int k (andK k a b)))) :=
  pu_bin (by rw [hx]; rfl) (by rw [hy]; rfl) fun w => by simp [eqGuard, binOp, Op.intBits, andK]
theorem pu_or {k : IntKind} {a b : Int} {xt yt : TypeId} (hx : evA N ⟨t, h⟩ x = .d (.v (.int k a))) (hy : evA N ⟨t, h⟩ y = .d (.v (.int k b))) : Pure1 P N ⟨some d, .binOp .or xt x y yt, ty, pos, aft, g⟩ ⟨t, h⟩ (.d (.v (.int k (orK k a b)))) :=
  pu_bin (by rw [hx]; rfl) (by rw [hy]; rfl) fun w => by simp [eqGuard, binOp, Op.intBits, orK]
theorem pu_shr {k k2 : IntKind} {a b : Int} {xt yt : TypeId} (hx : evA N ⟨t, h⟩ x = .d (.v (.int k a))) (hy : evA N ⟨t, h⟩ y = .d (.v (.int k2 b))) (hb : 0 ≤ b) : Pure1 P N ⟨some d, .binOp .shr xt x y yt, ty, pos, aft, g⟩ ⟨t, h⟩ (.d (.v (.int k (shrK k a b)))) :=
  pu_bin (by rw [hx]; rfl) (by rw [hy]; rfl) fun w => by simp [eqGuard, binOp, Op.shift, shrK, Int.not_lt.2 hb]
theorem pu_shl {k k2 : IntKind} {a b : Int} {xt yt : TypeId} (hx : evA N ⟨t, h⟩ x = .d (.v (.int k a))) (hy : evA N ⟨t, h⟩ y = .d (.v (.int k2 b))) (hb : 0 ≤ b) : Pure1 P N ⟨some d, .binOp .shl xt x y yt, ty, pos, aft, g⟩ ⟨t, h⟩ (.d (.v (.int k (shlK k a b)))) :=
  pu_bin (by rw [hx]; rfl) (by rw [hy]; rfl) fun w => by simp [eqGuard, binOp, Op.shift, shlK, Int.not_lt.2 hb]
end
end Go.Proofs.YtjhadibjjldpdaaGreat
