/- What the printed functions for sums, products and shifts are over words of 64 bits. -/
import Derived.Test.YtnljfoaacngamaaBr
import Derived.Test.YtnljfoaacngamaaPDx10
import Derived.Test.YtnljfoaacngamaaPDx12
import Derived.Test.YtnljfoaacngamaaPDx13
import Derived.Test.YtnljfoaacngamaaPDx15
set_option linter.unusedVariables false
set_option linter.unusedSimpArgs false
namespace Go.Proofs.Ytnljfoaacngamaa.BR
open Go.Proofs.Ytnljfoaacngamaa.TM (W T I I_and I_or I_xor I_andNot I_add I_sub I_mul I_shl I_shr I_sar I_beq I_beq0 I_eq0 I_inj I_lo I_hi May Has In)
open Go.Proofs.Ytnljfoaacngamaa.PD Go.RowKit
theorem sub_eq (a b : T) : tnum_Sub.f (I a.v) (I a.m) (I b.v) (I b.m) = some (I (TM.sub a b).v, I (TM.sub a b).m) := by
  simp only [tnum_Sub.f, I_add, I_sub, I_or, I_xor, tof_eq, Option.bind_some, TM.sub, TM.subU]
theorem and_eq (a b : T) : tnum_And.f (I a.v) (I a.m) (I b.v) (I b.m) = some (I (TM.band a b).v, I (TM.band a b).m) := by
  simp only [tnum_And.f, I_and, I_or, I_andNot, TM.band]
theorem or_eq (a b : T) : tnum_Or.f (I a.v) (I a.m) (I b.v) (I b.m) = some (I (TM.bor a b).v, I (TM.bor a b).m) := by
  simp only [tnum_Or.f, I_and, I_or, I_andNot, TM.bor]
theorem xor_eq (a b : T) : tnum_Xor.f (I a.v) (I a.m) (I b.v) (I b.m) = some (I (TM.bxor a b).v, I (TM.bxor a b).m) := by
  simp only [tnum_Xor.f, I_xor, I_or, tof_eq, Option.bind_some, TM.bxor]
theorem shl_eq (t : T) (n : Int) (h : 0 ≤ n) : tnum_Shl.f (I t.v) (I t.m) n = some (I (TM.shl t n.toNat).v, I (TM.shl t n.toNat).m) := by
  simp only [tnum_Shl.f]
  rw [if_pos h, I_shl _ _ h, I_shl _ _ h]; rfl
theorem shr_eq (t : T) (n : Int) (h : 0 ≤ n) : tnum_Shr.f (I t.v) (I t.m) n = some (I (TM.shr t n.toNat).v, I (TM.shr t n.toNat).m) := by
  simp only [tnum_Shr.f]
  rw [if_pos h, I_shr _ _ h, I_shr _ _ h]; rfl
theorem sar_eq (t : T) (n : Int) (h : 0 ≤ n) : tnum_Sar.f (I t.v) (I t.m) n = some (I (TM.sar t n.toNat).v, I (TM.sar t n.toNat).m) := by
  simp only [tnum_Sar.f]
  rw [if_pos h, I_sar _ _ h, I_sar _ _ h]; rfl
theorem some_eq (t : T) (x : W) : wardenlaw03_some.f (I t.v) (I t.m) (I x) = some (I (t.v ||| (x &&& t.m))) := by
  simp only [wardenlaw03_some.f, I_and, I_or]
/-! products -/
theorem one_and (x : W) : Go.bits .and .u64 (I x) 1 = 1 ↔ x.getLsbD 0 = true := by
  rw [show (1 : Int) = I 1#64 from rfl, I_and, I_inj]
  constructor
  · intro h
    have := TM.bits_eq h 0
    rw [BitVec.getLsbD_and] at this
    simpa using this
  · intro h
    apply TM.eq_bits
    intro i
    rw [BitVec.getLsbD_and]
    by_cases hi : i = 0
    · subst hi; rw [h]; rfl
    · simp [hi]
theorem z_test (t : T) : ((!(I t.v == 0) || (!(I t.m == 0))) = true) ↔ ¬ (t = TM.z) := by
  rw [I_beq0, I_beq0]
  cases t with
  | mk v m =>
    simp only [TM.z, T.mk.injEq]
    by_cases h1 : v = 0#64 <;> by_cases h2 : m = 0#64 <;> simp [h1, h2]
theorem z_test' (t : T) : ((I t.v == 0 && (I t.m == 0)) = true) ↔ (t = TM.z) := by
  rw [I_beq0, I_beq0]
  cases t with
  | mk v m =>
    simp only [TM.z, T.mk.injEq]
    by_cases h1 : v = 0#64 <;> by_cases h2 : m = 0#64 <;> simp [h1, h2]
theorem shr1_eq (t : T) : tnum_Shr.f (I t.v) (I t.m) 1 = some (I (TM.shr t 1).v, I (TM.shr t 1).m) := shr_eq t 1 (by omega)
theorem shl1_eq (t : T) : tnum_Shl.f (I t.v) (I t.m) 1 = some (I (TM.shl t 1).v, I (TM.shl t 1).m) := shl_eq t 1 (by omega)
theorem j1_eq (k : Nat) (a b t : T) (P : W) (h : ¬ TM.shl b 1 = TM.z) : tnum_Mul.j1 (k + 1) (I a.v) (I a.m) (I b.v) (I b.m) (I P) 0 (I t.v) (I t.m) =
    tnum_Mul.l0 k (I (TM.shr a 1).v) (I (TM.shr a 1).m) (I (TM.shl b 1).v) (I (TM.shl b 1).m) (I P) 0 (I t.v) (I t.m) := by
  simp only [tnum_Mul.j1]
  rw [shr1_eq, shl1_eq]
  simp only [Option.bind_some]
  rw [if_neg (mt (z_test' _).1 h)]
theorem addP_eq (t : T) (P : W) : tnum_Add.f (I t.v) (I t.m) (I P) 0 = some (I (TM.add t ⟨P, 0#64⟩).v, I (TM.add t ⟨P, 0#64⟩).m) := add_eq t ⟨P, 0#64⟩
theorem add0_eq (t : T) (m : W) : tnum_Add.f (I t.v) (I t.m) 0 (I m) = some (I (TM.add t ⟨0#64, m⟩).v, I (TM.add t ⟨0#64, m⟩).m) := add_eq t ⟨0#64, m⟩
theorem j1_eq' (k : Nat) (a b t : T) (P : W) (h : TM.shl b 1 = TM.z) : tnum_Mul.j1 (k + 1) (I a.v) (I a.m) (I b.v) (I b.m) (I P) 0 (I t.v) (I t.m) =
    some (I (TM.add t ⟨P, 0#64⟩).v, I (TM.add t ⟨P, 0#64⟩).m) := by
  simp only [tnum_Mul.j1]
  rw [shr1_eq, shl1_eq]
  simp only [Option.bind_some]
  rw [if_pos ((z_test' _).2 h), addP_eq]
  rfl
theorem l0_eq (k : Nat) (a b t : T) (P : W) (h : ¬ a = TM.z) : tnum_Mul.l0 (k + 1) (I a.v) (I a.m) (I b.v) (I b.m) (I P) 0 (I t.v) (I t.m) =
    tnum_Mul.j1 k (I a.v) (I a.m) (I b.v) (I b.m) (I P) 0 (I (TM.stepL a b t).v) (I (TM.stepL a b t).m) := by
  simp only [tnum_Mul.l0]
  rw [if_pos ((z_test _).2 h)]
  unfold TM.stepL
  by_cases h1 : a.v.getLsbD 0 = true
  · rw [if_pos ((one_and _).2 h1), if_pos h1, add0_eq]
    simp only [Option.bind_some]
  · rw [if_neg (mt (one_and _).1 h1), if_neg h1]
    by_cases h2 : a.m.getLsbD 0 = true
    · rw [if_pos ((one_and _).2 h2), if_pos h2, I_or, add0_eq]
      simp only [Option.bind_some]
    · rw [if_neg (mt (one_and _).1 h2), if_neg h2]
theorem mulL_eq : ∀ (n k : Nat) (a b t : T) (P : W), 2 * n ≤ k → ∀ r, TM.mulL n a b t = some r →
    tnum_Mul.l0 k (I a.v) (I a.m) (I b.v) (I b.m) (I P) 0 (I t.v) (I t.m) = some (I (TM.add r ⟨P, 0#64⟩).v, I (TM.add r ⟨P, 0#64⟩).m)
  | 0, _, _, _, _, _, _, _, h => by cases h
  | n + 1, k, a, b, t, P, hk, r, h => by
    obtain ⟨k, rfl⟩ : ∃ m, k = m + 2 := ⟨k - 2, by omega⟩
    rw [TM.mulL] at h
    by_cases h1 : a = TM.z
    · rw [if_pos h1] at h
      obtain rfl := Option.some.inj h
      simp only [tnum_Mul.l0]
      rw [if_neg (fun h2 => (z_test _).1 h2 h1), addP_eq]
      rfl
    · rw [if_neg h1] at h
      rw [l0_eq _ _ _ _ _ h1]
      by_cases h2 : TM.shl b 1 = TM.z
      · rw [if_pos h2] at h
        obtain rfl := Option.some.inj h
        rw [j1_eq' _ _ _ _ _ h2]
      · rw [if_neg h2] at h
        rw [j1_eq _ _ _ _ _ h2]
        exact mulL_eq n k _ _ _ P (by omega) r h
theorem mul_eq {a : T} (ha : May a) (b : T) {k : Nat} (hk : 130 ≤ k) : tnum_Mul.f k (I a.v) (I a.m) (I b.v) (I b.m) = some (I (TM.mul a b).v, I (TM.mul a b).m) := by
  unfold tnum_Mul.f
  rw [I_mul, const_eq]
  simp only [Option.bind_some]
  have h := TM.mulL_R ha b 64 0 65 (t := ⟨0#64, 0#64⟩) (by omega) (by omega) (TM.may_zero _)
  have e1 : TM.shr a 0 = a := by simp [TM.shr]
  have e2 : TM.shl b 0 = b := by simp [TM.shl]
  rw [e1, e2] at h
  exact mulL_eq 65 k a b ⟨0#64, 0#64⟩ (a.v * b.v) (by omega) _ h
end Go.Proofs.Ytnljfoaacngamaa.BR
