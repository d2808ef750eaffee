/- What the document's products and shifts of tnums are over words of 64 bits. -/
import Derived.Test.YtnljfoaacngamaaBrOps
import Derived.Test.YtnljfoaacngamaaBrRef
import Derived.Test.YtnljfoaacngamaaPDx12r
import Derived.Test.YtnljfoaacngamaaPDx13r
set_option linter.unusedVariables false
set_option linter.unusedSimpArgs false
namespace Go.Proofs.Ytnljfoaacngamaa.BR
open Go.Proofs.Ytnljfoaacngamaa.TM (W T I I_and I_or I_xor I_andNot I_add I_sub I_mul I_shl I_shr I_sar I_beq I_beq0 I_eq0 I_inj I_lo I_hi May Has In bitN putT build bitN_cases)
open Go.Proofs.Ytnljfoaacngamaa.PD Go.RowKit Go.Proofs.YtnljfoaacngamaaW.PrintWords
theorem refAdd (a b : T) : wardenref03_Add.f (I a.v) (I a.m) (I b.v) (I b.m) = some (I (TM.add a b).v, I (TM.add a b).m) := by
  simp only [wardenref03_Add.f, I_add, I_or, I_xor, I_andNot, TM.add, TM.addU, TM.mk]
theorem refSub (a b : T) : wardenref03_Sub.f (I a.v) (I a.m) (I b.v) (I b.m) = some (I (TM.sub a b).v, I (TM.sub a b).m) := by
  simp only [wardenref03_Sub.f, I_add, I_sub, I_or, I_xor, I_andNot, TM.sub, TM.subU, TM.mk]
theorem refAdd0 (t : T) (m : W) : wardenref03_Add.f (I t.v) (I t.m) 0 (I m) = some (I (TM.add t ⟨0#64, m⟩).v, I (TM.add t ⟨0#64, m⟩).m) := refAdd t ⟨0#64, m⟩
theorem refAddP (t : T) (P : W) : wardenref03_Add.f (I t.v) (I t.m) (I P) 0 = some (I (TM.add t ⟨P, 0#64⟩).v, I (TM.add t ⟨P, 0#64⟩).m) := refAdd t ⟨P, 0#64⟩
theorem refMul_loop (a b : T) : ∀ (d i k : Nat) (t : T), i + d = 64 → d + 1 ≤ k →
    wardenref03_Mul.l0 k (i : Int) (I a.v) (I a.m) (I b.v) (I b.m) (I t.v) (I t.m) = some (I (TM.add (TM.mulR a b d i t) ⟨a.v * b.v, 0#64⟩).v, I (TM.add (TM.mulR a b d i t) ⟨a.v * b.v, 0#64⟩).m)
  | 0, i, k, t, hi, hk => by
    obtain ⟨k, rfl⟩ : ∃ m, k = m + 1 := ⟨k - 1, by omega⟩
    simp only [wardenref03_Mul.l0]
    rw [if_neg (by omega), I_mul, refAddP, bs]
    rfl
  | d + 1, i, k, t, hi, hk => by
    obtain ⟨k, rfl⟩ : ∃ m, k = m + 1 := ⟨k - 1, by omega⟩
    have hi64 : i < 64 := by omega
    have ih := refMul_loop a b d (i + 1) k (TM.stepR a b i t) (by omega) (by omega)
    rw [TM.mulR, ← ih]
    simp only [wardenref03_Mul.l0]
    rw [if_pos (by omega), bit_eq a hi64, bs, wrapS hi64, wrapN hi64, I_or, shlN, shlN, refAdd0, refAdd0]
    simp only [bs]
    unfold TM.stepR bitN TM.bN
    cases hm : a.m.getLsbD i
    · cases hv : a.v.getLsbD i
      · rfl
      · simp
    · simp
theorem refMul (a b : T) {k : Nat} (hk : 200 ≤ k) : wardenref03_Mul.f k (I a.v) (I a.m) (I b.v) (I b.m) = some (I (TM.mul a b).v, I (TM.mul a b).m) := by
  unfold wardenref03_Mul.f
  exact refMul_loop a b 64 0 k ⟨0#64, 0#64⟩ (by omega) (by omega)
/-- what a shift has at a bit -/
def gShift (how : Int) (a : T) (n j : Nat) : Int := if how = 0 then TM.gShl a n j else if how = 1 then TM.gShr a n j else TM.gSar a n j
theorem j1_in (a t : T) (x1 x2 : Int) {i f : Nat} (hi : i < 64) (hf : f < 64) (k : Nat) : wardenref03_Shift.j1 (k + 2) x1 x2 (i : Int) (f : Int) (I a.v) (I a.m) (I t.v) (I t.m) =
    wardenref03_Shift.l0 k x1 x2 ((i + 1 : Nat) : Int) (I a.v) (I a.m) (I (putT t i (bitN a f)).v) (I (putT t i (bitN a f)).m) := by
  simp only [wardenref03_Shift.j1]
  rw [if_pos (Int.natCast_nonneg f)]
  simp only [wardenref03_Shift.j2]
  rw [if_pos (decide_eq_true (by omega)), bit_eq a hf, bs, put_eq t hi, bs, wrapS hi]
theorem put0 (t : T) (i : Nat) : putT t i 0 = t := by
  unfold putT
  rw [if_neg (by decide), if_neg (by decide)]
theorem j1_out (a t : T) (x1 x2 f : Int) {i : Nat} (hi : i < 64) (hf : f < 0 ∨ 64 ≤ f) (k : Nat) : wardenref03_Shift.j1 (k + 2) x1 x2 (i : Int) f (I a.v) (I a.m) (I t.v) (I t.m) =
    wardenref03_Shift.l0 k x1 x2 ((i + 1 : Nat) : Int) (I a.v) (I a.m) (I (putT t i 0).v) (I (putT t i 0).m) := by
  rw [put0]
  simp only [wardenref03_Shift.j1]
  by_cases h : f ≥ 0
  · rw [if_pos h]
    simp only [wardenref03_Shift.j2]
    rw [if_neg (by simp; omega), wrapS hi]
  · rw [if_neg h]
    simp only [wardenref03_Shift.j2]
    rw [if_neg (by decide), wrapS hi]
theorem shift_step {how : Int} (hh : how = 0 ∨ how = 1 ∨ how = 2) (a t : T) (n : Int) (hn : 0 ≤ n) {i : Nat} (hi : i < 64) (k : Nat) :
    wardenref03_Shift.l0 (k + 3) n how (i : Int) (I a.v) (I a.m) (I t.v) (I t.m) =
      wardenref03_Shift.l0 k n how ((i + 1 : Nat) : Int) (I a.v) (I a.m) (I (putT t i (gShift how a n.toNat i)).v) (I (putT t i (gShift how a n.toNat i)).m) := by
  simp only [wardenref03_Shift.l0]
  rw [if_pos (by omega)]
  by_cases h : n > 63
  · rw [if_pos h]
    rcases hh with rfl | rfl | rfl
    · rw [if_neg (by decide), j1_out a t n 0 (-1) hi (.inl (by omega))]
      have e : gShift 0 a n.toNat i = 0 := by
        show TM.gShl a n.toNat i = 0
        unfold TM.gShl; rw [if_neg (by omega)]
      rw [e]
    · rw [if_neg (by decide), j1_out a t n 1 (-1) hi (.inl (by omega))]
      have e : gShift 1 a n.toNat i = 0 := by
        show TM.gShr a n.toNat i = 0
        unfold TM.gShr; rw [if_neg (by omega)]
      rw [e]
    · rw [if_pos rfl]
      have e : gShift 2 a n.toNat i = bitN a 63 := by
        show TM.gSar a n.toNat i = _
        unfold TM.gSar
        rw [Nat.min_eq_right (show 63 ≤ n.toNat + i by omega)]
      rw [e]
      exact j1_in a t n 2 (f := 63) hi (by omega) k
  · rw [if_neg h]
    obtain ⟨m, rfl⟩ := Int.eq_ofNat_of_zero_le hn
    have hm : m ≤ 63 := by omega
    have w1 : wrap64 (m : Int) = (m : Int) := by unfold wrap64; omega
    rw [Int.toNat_natCast, w1]
    rcases hh with rfl | rfl | rfl
    · rw [if_pos rfl]
      by_cases hmi : m ≤ i
      · have e1 : wrap64 ((i : Int) - (m : Int)) = ((i - m : Nat) : Int) := by unfold wrap64; omega
        have e : gShift 0 a m i = bitN a (i - m) := by
          show TM.gShl a m i = _
          unfold TM.gShl; rw [if_pos hmi]
        rw [e1, e]
        exact j1_in a t m 0 hi (by omega) k
      · have e : gShift 0 a m i = 0 := by
          show TM.gShl a m i = _
          unfold TM.gShl; rw [if_neg hmi]
        rw [e]
        exact j1_out a t m 0 _ hi (.inl (by unfold wrap64; omega)) k
    · rw [if_neg (by decide), if_neg (by decide)]
      have e1 : wrap64 ((i : Int) + (m : Int)) = ((m + i : Nat) : Int) := by unfold wrap64; omega
      rw [e1]
      by_cases hmi : m + i < 64
      · have e : gShift 1 a m i = bitN a (m + i) := by
          show TM.gShr a m i = _
          unfold TM.gShr; rw [if_pos hmi]
        rw [e]
        exact j1_in a t m 1 hi hmi k
      · have e : gShift 1 a m i = 0 := by
          show TM.gShr a m i = _
          unfold TM.gShr; rw [if_neg hmi]
        rw [e]
        exact j1_out a t m 1 _ hi (.inr (by omega)) k
    · rw [if_neg (by decide), if_pos rfl]
      have e1 : mn (wrap64 ((i : Int) + (m : Int))) 63 = ((min (m + i) 63 : Nat) : Int) := by
        have : wrap64 ((i : Int) + (m : Int)) = ((m + i : Nat) : Int) := by unfold wrap64; omega
        rw [this]
        unfold mn
        split <;> omega
      rw [e1]
      exact j1_in a t m 2 hi (by omega) k
theorem shift_loop {how : Int} (hh : how = 0 ∨ how = 1 ∨ how = 2) (a : T) (n : Int) (hn : 0 ≤ n) : ∀ (d i k : Nat), i + d = 64 → 3 * d + 1 ≤ k →
    wardenref03_Shift.l0 k n how (i : Int) (I a.v) (I a.m) (I (build (gShift how a n.toNat) i).v) (I (build (gShift how a n.toNat) i).m) = some (I (build (gShift how a n.toNat) 64).v, I (build (gShift how a n.toNat) 64).m)
  | 0, i, k, hi, hk => by
    obtain ⟨k, rfl⟩ : ∃ m, k = m + 1 := ⟨k - 1, by omega⟩
    obtain rfl : i = 64 := by omega
    simp only [wardenref03_Shift.l0]
    rw [if_neg (by omega)]
  | d + 1, i, k, hi, hk => by
    obtain ⟨k, rfl⟩ : ∃ m, k = m + 3 := ⟨k - 3, by omega⟩
    rw [shift_step hh a _ n hn (show i < 64 by omega) k]
    exact shift_loop hh a n hn d (i + 1) k (by omega) (by omega)
theorem refShl {a : T} (ha : May a) (n : Int) (hn : 0 ≤ n) {k : Nat} (hk : 200 ≤ k) : wardenref03_Shift.f k (I a.v) (I a.m) n 0 = some (I (TM.shl a n.toNat).v, I (TM.shl a n.toNat).m) := by
  unfold wardenref03_Shift.f
  have := shift_loop (.inl rfl) a n hn 64 0 k (by omega) (by omega)
  rw [show gShift 0 a n.toNat = TM.gShl a n.toNat from rfl, TM.shl_build ha] at this
  exact this
theorem refShr {a : T} (ha : May a) (n : Int) (hn : 0 ≤ n) {k : Nat} (hk : 200 ≤ k) : wardenref03_Shift.f k (I a.v) (I a.m) n 1 = some (I (TM.shr a n.toNat).v, I (TM.shr a n.toNat).m) := by
  unfold wardenref03_Shift.f
  have := shift_loop (.inr (.inl rfl)) a n hn 64 0 k (by omega) (by omega)
  rw [show gShift 1 a n.toNat = TM.gShr a n.toNat from rfl, TM.shr_build ha] at this
  exact this
theorem refSar {a : T} (ha : May a) (n : Int) (hn : 0 ≤ n) {k : Nat} (hk : 200 ≤ k) : wardenref03_Shift.f k (I a.v) (I a.m) n 2 = some (I (TM.sar a n.toNat).v, I (TM.sar a n.toNat).m) := by
  unfold wardenref03_Shift.f
  have := shift_loop (.inr (.inr rfl)) a n hn 64 0 k (by omega) (by omega)
  rw [show gShift 2 a n.toNat = TM.gSar a n.toNat from rfl, TM.sar_build ha] at this
  exact this
end Go.Proofs.Ytnljfoaacngamaa.BR
