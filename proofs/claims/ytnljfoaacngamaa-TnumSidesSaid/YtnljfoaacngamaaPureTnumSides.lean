/- Plain: the sides of sums and of bits taken together. -/
import Derived.Test.YtnljfoaacngamaaBr
import Derived.Test.YtnljfoaacngamaaMath2
import Derived.Test.YtnljfoaacngamaaPDx17
set_option linter.unusedVariables false
set_option linter.unusedSimpArgs false
namespace Go.Proofs.Ytnljfoaacngamaa.Pure
open Go.Proofs.Ytnljfoaacngamaa.TM (W T I I_and I_or I_xor I_andNot I_add I_sub I_mul I_shl I_shr I_sar I_beq I_beq0 I_eq0 I_inj I_lo I_hi May Has In)
open Go.Proofs.Ytnljfoaacngamaa.PD Go.Proofs.Ytnljfoaacngamaa.BR Go.RowKit Go.Proofs.YtnljfoaacngamaaW.PrintWords
theorem bs {α β : Type} (x : α) (f : α → Option β) : (some x).bind f = f x := by
  cases h : (some x).bind f with
  | none => exact h.symm
  | some y => exact h.symm
theorem tr {p : Prop} [Decidable p] (h : p) : decide p = true := decide_eq_true h
theorem eqT {s t : T} (h : s = t) : (I s.v == I t.v && (I s.m == I t.m)) = true := by subst h; simp
theorem neT {s t : T} (h : s = t) : (!(I s.v == I t.v) || (!(I s.m == I t.m))) = false := by subst h; simp
theorem all_eq : tnum_Const.f 18446744073709551615 = some (I (⟨BitVec.allOnes 64, 0#64⟩ : T).v, I (⟨BitVec.allOnes 64, 0#64⟩ : T).m) := by decide
theorem zero_eq : tnum_Const.f 0 = some (I (⟨0#64, 0#64⟩ : T).v, I (⟨0#64, 0#64⟩ : T).m) := by decide
theorem j1_true {a b : T} (ha : May a) (hb : May b) (k : Nat) : wardenlaw03_TnumSides.j1 (k + 1) true true (I a.v) (I a.m) (I b.v) (I b.m) = some true := by
  simp only [wardenlaw03_TnumSides.j1]
  rw [meet_eq, meet_eq, meet_eq, if_pos (TM.meets_self a)]
  simp only [bs, if_true]
  by_cases h : TM.meets a b
  · rw [if_pos h, if_pos ((TM.meets_comm a b).1 h)]
    simp only [bs]
    rw [if_pos (eqT (TM.meet_comm a b)), if_pos (by rfl), if_pos (eqT (TM.meet_self ha)), works_eq]
    rfl
  · rw [if_neg h, if_neg (mt (TM.meets_comm a b).2 h)]
    simp only [bs]
    rw [if_pos (by rfl), if_pos (by rfl), if_pos (eqT (TM.meet_self ha)), works_eq]
    rfl
theorem j0_true {a b : T} (ha : May a) (hb : May b) (k : Nat) (hk : 130 ≤ k) : wardenlaw03_TnumSides.j0 (k + 2) true (I a.v) (I a.m) (I b.v) (I b.m) (I (⟨0#64, 0#64⟩ : T).v) (I (⟨0#64, 0#64⟩ : T).m) (I (⟨BitVec.allOnes 64, 0#64⟩ : T).v) (I (⟨BitVec.allOnes 64, 0#64⟩ : T).m) = some true := by
  simp only [wardenlaw03_TnumSides.j0]
  rw [add_eq a ⟨0#64, 0#64⟩, sub_eq a ⟨0#64, 0#64⟩, and_eq a ⟨BitVec.allOnes 64, 0#64⟩, or_eq a ⟨0#64, 0#64⟩, xor_eq a ⟨0#64, 0#64⟩, join_eq a a, mul_eq ha ⟨0#64, 0#64⟩ (by omega), mul_eq (TM.may_zero _) a (by omega)]
  simp only [bs]
  rw [if_pos (eqT (TM.add_zero ha)), if_pos (eqT (TM.sub_zero ha)), if_pos (eqT (TM.and_all ha)), if_pos (eqT (TM.or_zero ha)), if_pos (eqT (TM.xor_zero ha)), if_pos (eqT (TM.join_self ha)), if_pos (eqT (TM.mul_zero a)), eqT (TM.zero_mul a)]
  exact j1_true ha hb k
theorem TnumSides : wardenlaw03_TnumSides.Pure := by
  intro a0 a1 a2 a3 w0 w1 w2 w3
  obtain ⟨v, rfl⟩ := TM.of_wf w0
  obtain ⟨m, rfl⟩ := TM.of_wf w1
  obtain ⟨w, rfl⟩ := TM.of_wf w2
  obtain ⟨n, rfl⟩ := TM.of_wf w3
  refine ⟨200 + 2, ?_⟩
  unfold wardenlaw03_TnumSides.f
  rw [of_eq, of_eq, all_eq, zero_eq]
  simp only [bs]
  have ha := TM.may_mk v m
  have hb := TM.may_mk w n
  generalize TM.mk v m = a at *
  generalize TM.mk w n = b at *
  rw [add_eq, add_eq, and_eq, and_eq, or_eq, or_eq, xor_eq, xor_eq, join_eq, join_eq]
  simp only [bs]
  rw [if_pos (eqT (TM.add_comm a b)), if_pos (eqT (TM.and_comm a b)), if_pos (eqT (TM.or_comm a b)), if_pos (eqT (TM.xor_comm a b)), eqT (TM.join_comm a b)]
  exact j0_true ha hb 200 (by omega)
end Go.Proofs.Ytnljfoaacngamaa.Pure
