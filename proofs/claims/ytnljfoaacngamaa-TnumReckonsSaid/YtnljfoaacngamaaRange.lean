/- Plain mathematics: a row of numbers as a tnum. No program here. -/
import Derived.Test.YtnljfoaacngamaaMath
set_option linter.unusedVariables false
set_option linter.unusedSimpArgs false
namespace Go.Proofs.Ytnljfoaacngamaa.TM
/-! rows of numbers -/
def range (low high : W) (n : Nat) : T := mk low (lows n)
/-- all bits from i on are alike -/
def alike (x y : W) (i : Nat) : Prop := ∀ j, i ≤ j → j < 64 → x.getLsbD j = y.getLsbD j
theorem alike_iff {x y : W} {i : Nat} : alike x y i ↔ (x ^^^ y).toNat < 2 ^ i := by
  constructor
  · intro h
    apply Nat.lt_pow_two_of_testBit
    intro j hj
    show (x ^^^ y).getLsbD j = false
    rw [BitVec.getLsbD_xor]
    by_cases h64 : j < 64
    · rw [h j hj h64]; cases y.getLsbD j <;> rfl
    · have e : ∀ z : W, z.getLsbD j = false := fun z => BitVec.getLsbD_of_ge _ _ (by omega)
      simp only [e]; rfl
  · intro h j hj _
    have : (x ^^^ y).getLsbD j = false := by
      show (x ^^^ y).toNat.testBit j = false
      exact Nat.testBit_lt_two_pow (Nat.lt_of_lt_of_le h (Nat.pow_le_pow_right (by omega) hj))
    rw [BitVec.getLsbD_xor] at this
    revert this
    cases x.getLsbD j <;> cases y.getLsbD j <;> simp
theorem range_has {lo hi x : W} {n : Nat} (hn : (lo ^^^ hi).toNat < 2 ^ n) (h1 : lo.toNat ≤ x.toNat) (h2 : x.toNat ≤ hi.toNat) : Has (range lo hi n) x := by
  refine has_mk fun j hj hm => ?_
  rw [lows_bit] at hm
  have hjn : n ≤ j := by
    by_cases h : j < n
    · simp [h, hj] at hm
    · omega
  have hd : lo.toNat / 2 ^ n = hi.toNat / 2 ^ n := by
    have e : (lo ^^^ hi).toNat / 2 ^ n = 0 := Nat.div_eq_of_lt hn
    rw [BitVec.toNat_xor, Nat.xor_div_two_pow] at e
    exact Nat.eq_of_testBit_eq fun i => by
      have := congrArg (fun z => z.testBit i) e
      simpa [Nat.testBit_xor] using this
  have hx : x.toNat / 2 ^ n = lo.toNat / 2 ^ n := by
    have a1 := Nat.div_le_div_right (c := 2 ^ n) h1
    have a2 := Nat.div_le_div_right (c := 2 ^ n) h2
    omega
  show x.toNat.testBit j = lo.toNat.testBit j
  have hb : ∀ y : Nat, y.testBit j = (y / 2 ^ n).testBit (j - n) := by
    intro y
    rw [Nat.testBit_div_two_pow]
    congr 1
    omega
  rw [hb, hb lo.toNat, hx]
end Go.Proofs.Ytnljfoaacngamaa.TM
