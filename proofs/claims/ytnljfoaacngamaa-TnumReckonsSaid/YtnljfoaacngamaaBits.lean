/- The words of 64 bits as the print's whole numbers: each operation of the one is the operation of the other. -/
import Derived.Test.YtnljfoaacngamaaMath
import Derived.Test.YtnljfoaacngamaaWMore
import Derived.Laws.BitsAllLaws
set_option linter.unusedVariables false
namespace Go.Proofs.Ytnljfoaacngamaa.TM
open Go.Proofs.YtnljfoaacngamaaW Go.RowKit
/-- A word as a number. -/
def I (x : W) : Int := (x.toNat : Int)
theorem I_lo (x : W) : 0 ≤ I x := Int.natCast_nonneg _
theorem I_hi (x : W) : I x < 18446744073709551616 := by
  have := x.isLt
  unfold I
  omega
theorem I_inj {x y : W} : I x = I y ↔ x = y := by
  unfold I
  rw [Int.natCast_inj, BitVec.toNat_inj]
theorem of_wf {a : Int} (h : (Lit.int .u64 a).wf = true) : ∃ x : W, a = I x := by
  have hw : IntKind.u64.min ≤ a ∧ a ≤ IntKind.u64.max := by simpa [Lit.wf] using h
  have h1 : IntKind.u64.min = 0 := by decide
  have h2 : IntKind.u64.max = 18446744073709551615 := by decide
  refine ⟨BitVec.ofInt 64 a, ?_⟩
  unfold I
  rw [BitVec.toNat_ofInt]
  have : (2 : Int) ^ 64 = 18446744073709551616 := by decide
  omega
theorem ofInt_I (x : W) : BitVec.ofInt 64 (I x) = x := by
  unfold I
  rw [BitVec.ofInt_natCast, BitVec.ofNat_toNat, BitVec.setWidth_eq]
theorem wrap_I (x : W) : IntKind.u64.wrap (I x) = I x := by
  rw [IntKind.wrap_u64]
  have := I_lo x
  have := I_hi x
  omega
theorem wrap_I' (x : W) : IntKind.u64.wrap (x.toNat : Int) = I x := wrap_I x
theorem I_and (x y : W) : Go.bits .and .u64 (I x) (I y) = I (x &&& y) := by
  unfold Go.bits
  show IntKind.u64.wrap (((BitVec.ofInt 64 (I x)) &&& (BitVec.ofInt 64 (I y))).toNat : Int) = _
  rw [ofInt_I, ofInt_I, wrap_I']
theorem I_or (x y : W) : Go.bits .or .u64 (I x) (I y) = I (x ||| y) := by
  unfold Go.bits
  show IntKind.u64.wrap (((BitVec.ofInt 64 (I x)) ||| (BitVec.ofInt 64 (I y))).toNat : Int) = _
  rw [ofInt_I, ofInt_I, wrap_I']
theorem I_xor (x y : W) : Go.bits .xor .u64 (I x) (I y) = I (x ^^^ y) := by
  unfold Go.bits
  show IntKind.u64.wrap (((BitVec.ofInt 64 (I x)) ^^^ (BitVec.ofInt 64 (I y))).toNat : Int) = _
  rw [ofInt_I, ofInt_I, wrap_I']
theorem I_andNot (x y : W) : Go.bits .andNot .u64 (I x) (I y) = I (andn x y) := by
  unfold Go.bits andn
  show IntKind.u64.wrap (((BitVec.ofInt 64 (I x)) &&& ~~~(BitVec.ofInt 64 (I y))).toNat : Int) = _
  rw [ofInt_I, ofInt_I, wrap_I']
theorem I_add (x y : W) : IntKind.u64.wrap (I x + I y) = I (x + y) := by
  rw [IntKind.wrap_u64]
  unfold I
  rw [BitVec.toNat_add]
  omega
theorem I_sub (x y : W) : IntKind.u64.wrap (I x - I y) = I (x - y) := by
  rw [IntKind.wrap_u64]
  have := x.isLt
  have := y.isLt
  unfold I
  rw [BitVec.toNat_sub]
  omega
theorem I_mul (x y : W) : IntKind.u64.wrap (I x * I y) = I (x * y) := by
  rw [IntKind.wrap_u64]
  unfold I
  rw [BitVec.toNat_mul, ← Int.natCast_mul]
  omega
theorem I_zero : (0 : Int) = I 0#64 := rfl
theorem I_one : (1 : Int) = I 1#64 := rfl
theorem I_all : (18446744073709551615 : Int) = I (BitVec.allOnes 64) := by decide
theorem I_shl (x : W) (n : Int) (h : 0 ≤ n) : Go.Proofs.YtnljfoaacngamaaW.PrintWords.shl .u64 (I x) n = I (x <<< n.toNat) := by
  unfold Go.Proofs.YtnljfoaacngamaaW.PrintWords.shl
  show IntKind.u64.wrap (I x * 2 ^ min n.toNat 64) = _
  rw [IntKind.wrap_u64]
  have e : x <<< n.toNat = x <<< (min n.toNat 64) := by
    by_cases hn : n.toNat ≤ 64
    · rw [Nat.min_eq_left hn]
    · rw [Nat.min_eq_right (by omega)]
      apply eq_bits
      intro i
      simp only [BitVec.getLsbD_shiftLeft]
      by_cases hi : i < 64
      · have h1 : i < n.toNat := by omega
        simp [hi, h1]
      · simp [hi]
  rw [e]
  unfold I
  rw [BitVec.toNat_shiftLeft, Nat.shiftLeft_eq]
  have e2 : ((2 : Int) ^ min n.toNat 64) = ((2 ^ min n.toNat 64 : Nat) : Int) := by simp
  rw [e2, ← Int.natCast_mul]
  generalize x.toNat * 2 ^ min n.toNat 64 = z
  omega
theorem I_shr (x : W) (n : Int) (h : 0 ≤ n) : Go.Proofs.YtnljfoaacngamaaW.PrintWords.shr .u64 (I x) n = I (x >>> n.toNat) := by
  unfold Go.Proofs.YtnljfoaacngamaaW.PrintWords.shr
  show I x / 2 ^ min n.toNat 64 = _
  have e : x >>> n.toNat = x >>> (min n.toNat 64) := by
    by_cases hn : n.toNat ≤ 64
    · rw [Nat.min_eq_left hn]
    · rw [Nat.min_eq_right (by omega)]
      apply eq_bits
      intro i
      simp only [BitVec.getLsbD_ushiftRight]
      rw [BitVec.getLsbD_of_ge _ _ (by omega), BitVec.getLsbD_of_ge _ _ (by omega)]
  rw [e]
  unfold I
  rw [BitVec.toNat_ushiftRight, Nat.shiftRight_eq_div_pow]
  have e2 : ((2 : Int) ^ min n.toNat 64) = ((2 ^ min n.toNat 64 : Nat) : Int) := by simp
  rw [e2]
  generalize 2 ^ min n.toNat 64 = z
  exact (Int.natCast_ediv _ _).symm
theorem I_sar (x : W) (n : Int) (h : 0 ≤ n) : IntKind.u64.wrap (Go.Proofs.YtnljfoaacngamaaW.PrintWords.shr .i64 (wrap64 (I x)) n) = I (x.sshiftRight n.toNat) := by
  unfold Go.Proofs.YtnljfoaacngamaaW.PrintWords.shr
  show IntKind.u64.wrap (wrap64 (I x) / 2 ^ min n.toNat 64) = _
  have e : x.sshiftRight n.toNat = x.sshiftRight (min n.toNat 64) := by
    by_cases hn : n.toNat ≤ 64
    · rw [Nat.min_eq_left hn]
    · rw [Nat.min_eq_right (by omega)]
      apply eq_bits
      intro i
      rw [sar_bit, sar_bit]
      congr 2
      omega
  have e1 : wrap64 (I x) = x.toInt := by
    have := x.isLt
    unfold wrap64 I
    rw [BitVec.toInt_eq_toNat_cond]
    split <;> omega
  rw [e, e1]
  have e2 : (x.sshiftRight (min n.toNat 64)).toInt = x.toInt / 2 ^ min n.toNat 64 := by
    rw [BitVec.toInt_sshiftRight, Int.shiftRight_eq_div_pow]
    simp
  rw [← e2, IntKind.wrap_u64]
  generalize x.sshiftRight (min n.toNat 64) = y
  have := y.isLt
  unfold I
  rw [BitVec.toInt_eq_toNat_cond]
  split <;> omega
theorem I_beq (x y : W) : (I x == I y) = decide (x = y) := by
  rw [Bool.eq_iff_iff]
  simp [I_inj]
theorem I_beq0 (x : W) : (I x == 0) = decide (x = 0#64) := I_beq x 0#64
theorem I_eq0 (x : W) : (I x = 0) = (x = 0#64) := propext (I_inj (y := 0#64))
end Go.Proofs.Ytnljfoaacngamaa.TM
