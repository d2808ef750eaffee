/- What the printed functions of the program and of the document's answer are over words of 64 bits. -/
import Derived.Test.YtnljfoaacngamaaBits
import Derived.Test.YtnljfoaacngamaaRange
import Derived.Test.YtnljfoaacngamaaPDx2
import Derived.Test.YtnljfoaacngamaaPDx4
import Derived.Test.YtnljfoaacngamaaPDx5
import Derived.Test.YtnljfoaacngamaaPDx7
import Derived.Test.YtnljfoaacngamaaPDx8
set_option linter.unusedVariables false
set_option linter.unusedSimpArgs false
namespace Go.Proofs.Ytnljfoaacngamaa.BR
open Go.Proofs.Ytnljfoaacngamaa.TM (W T I I_and I_or I_xor I_andNot I_add I_sub I_mul I_shl I_shr I_sar I_beq I_beq0 I_eq0 I_inj I_lo I_hi May Has In)
open Go.Proofs.Ytnljfoaacngamaa.PD Go.RowKit
instance (t : T) : Decidable (May t) := by unfold May; infer_instance
instance (t : T) (x : W) : Decidable (Has t x) := by unfold Has; infer_instance
instance (a b : T) : Decidable (In a b) := by unfold In; infer_instance
theorem of_eq (v m : W) : wardenlaw03_of.f (I v) (I m) = some (I (TM.mk v m).v, I (TM.mk v m).m) := by
  simp only [wardenlaw03_of.f, I_andNot, TM.mk]
theorem tof_eq (v m : W) : tnum_of.f (I v) (I m) = some (I (TM.mk v m).v, I (TM.mk v m).m) := by
  simp only [tnum_of.f, I_andNot, TM.mk]
theorem meet_eq (a b : T) : tnum_Meet.f (I a.v) (I a.m) (I b.v) (I b.m) = if TM.meets a b then some (I (TM.meet a b).v, I (TM.meet a b).m, true) else some (0, 0, false) := by
  simp only [tnum_Meet.f, I_xor, I_or, I_and, I_andNot, I_eq0, tof_eq, Option.bind_some, TM.meets, TM.meet]
  rfl
theorem may_eq (t : T) : tnum_May.f (I t.v) (I t.m) = some (decide (May t)) := by
  simp only [tnum_May.f, I_and, I_beq0]
  exact congrArg some (decide_eq_decide.2 Iff.rfl)
theorem has_eq (t : T) (x : W) : tnum_Has.f (I t.v) (I t.m) (I x) = some (decide (Has t x)) := by
  simp only [tnum_Has.f, I_andNot, I_beq]
  exact congrArg some (decide_eq_decide.2 Iff.rfl)
theorem in_eq (a b : T) : tnum_In.f (I a.v) (I a.m) (I b.v) (I b.m) = some (decide (In a b)) := by
  simp only [tnum_In.f, I_andNot, I_beq, I_eq0]
  by_cases h : TM.andn a.m b.m = 0#64
  · rw [if_pos h]; exact congrArg some (decide_eq_decide.2 ⟨fun k => ⟨h, k⟩, fun k => k.2⟩)
  · rw [if_neg h]; exact congrArg some (decide_eq_false fun k => h k.1).symm
theorem const_eq (x : W) : tnum_Const.f (I x) = some (I x, I 0#64) := rfl
theorem join_eq (a b : T) : tnum_Join.f (I a.v) (I a.m) (I b.v) (I b.m) = some (I (TM.join a b).v, I (TM.join a b).m) := by
  simp only [tnum_Join.f, I_or, I_xor, tof_eq, Option.bind_some, TM.join]
theorem low_eq (t : T) (n : Int) (h : 0 ≤ n) : tnum_Low.f (I t.v) (I t.m) n = some (I (TM.low t n.toNat).v, I (TM.low t n.toNat).m) := by
  simp only [tnum_Low.f]
  rw [if_pos h]
  have e : IntKind.u64.wrap ((Go.Proofs.YtnljfoaacngamaaW.PrintWords.shl .u64 1 n) - 1) = I (TM.lows n.toNat) := by
    rw [show (1 : Int) = I 1#64 from rfl, I_shl _ _ h, I_sub]
    rfl
  rw [e, I_and, I_and]
  rfl
theorem add_eq (a b : T) : tnum_Add.f (I a.v) (I a.m) (I b.v) (I b.m) = some (I (TM.add a b).v, I (TM.add a b).m) := by
  simp only [tnum_Add.f, I_add, I_or, I_xor, tof_eq, Option.bind_some, TM.add, TM.addU]
/-! rows -/
theorem bitLenAux_lt : ∀ (f x : Nat), x < 2 ^ f → x < 2 ^ Lib.bitLenAux f x
  | 0, x, h => by simpa [Lib.bitLenAux] using h
  | f + 1, x, h => by
    unfold Lib.bitLenAux
    by_cases h0 : x = 0
    · simp [h0]
    · rw [if_neg h0]
      have h1 : x / 2 < 2 ^ f := by rw [Nat.pow_succ] at h; omega
      have := bitLenAux_lt f (x / 2) h1
      rw [Nat.add_comm, Nat.pow_succ]
      omega
theorem bitLenAux_le : ∀ (f x j : Nat), x < 2 ^ j → Lib.bitLenAux f x ≤ j
  | 0, x, j, h => by simp [Lib.bitLenAux]
  | f + 1, x, j, h => by
    unfold Lib.bitLenAux
    by_cases h0 : x = 0
    · simp [h0]
    · rw [if_neg h0]
      cases j with
      | zero => simp at h; omega
      | succ j =>
        have h1 : x / 2 < 2 ^ j := by rw [Nat.pow_succ] at h; omega
        have := bitLenAux_le f (x / 2) j h1
        omega
def len (x y : W) : Nat := Lib.bitLen (x ^^^ y).toNat
theorem len_lt (x y : W) : (x ^^^ y).toNat < 2 ^ len x y := bitLenAux_lt 64 _ (x ^^^ y).isLt
theorem len_le (x y : W) (j : Nat) (h : (x ^^^ y).toNat < 2 ^ j) : len x y ≤ j := bitLenAux_le 64 _ j h
theorem len64_eq (k : Nat) (x y : W) : bits_Len64.f k (I (x ^^^ y)) = some ((len x y : Nat) : Int) := by
  unfold bits_Len64.f
  have h1 := I_lo (x ^^^ y)
  have h2 := I_hi (x ^^^ y)
  rw [if_pos ⟨h1, by omega⟩]
  rfl
theorem range_eq (k : Nat) (x y : W) (h : ¬ I x > I y) : tnum_Range.f k (I x) (I y) = some (I (TM.range x y (len x y)).v, I (TM.range x y (len x y)).m) := by
  unfold tnum_Range.f
  rw [if_neg h, I_xor, len64_eq]
  simp only [Option.bind_some]
  rw [if_pos (Int.natCast_nonneg _)]
  have e : IntKind.u64.wrap ((Go.Proofs.YtnljfoaacngamaaW.PrintWords.shl .u64 1 ((len x y : Nat) : Int)) - 1) = I (TM.lows (len x y)) := by
    rw [show (1 : Int) = I 1#64 from rfl, I_shl _ _ (Int.natCast_nonneg _), I_sub]
    rfl
  rw [e, tof_eq]
  rfl
theorem range_eq' (k : Nat) (x y : W) (h : I x > I y) : tnum_Range.f k (I x) (I y) = some (0, 18446744073709551615) := by
  unfold tnum_Range.f
  rw [if_pos h]
  decide
theorem works_eq (k : Nat) : wardenlaw03_works.f k = some true := by
  kernel_rfl
end Go.Proofs.Ytnljfoaacngamaa.BR
