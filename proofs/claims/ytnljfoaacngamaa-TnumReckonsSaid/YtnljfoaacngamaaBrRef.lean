/- What the document's answer for tnums is over words of 64 bits: it goes bit by bit. -/
import Derived.Test.YtnljfoaacngamaaBr
import Derived.Test.YtnljfoaacngamaaRef
import Derived.Test.YtnljfoaacngamaaPDx2r
import Derived.Test.YtnljfoaacngamaaPDx6
set_option linter.unusedVariables false
set_option linter.unusedSimpArgs false
namespace Go.Proofs.Ytnljfoaacngamaa.BR
open Go.Proofs.Ytnljfoaacngamaa.TM (W T I I_and I_or I_xor I_andNot I_add I_sub I_mul I_shl I_shr I_sar I_beq I_beq0 I_eq0 I_inj I_lo I_hi May Has In bitN putT build bitN_cases)
open Go.Proofs.Ytnljfoaacngamaa.PD Go.RowKit Go.Proofs.YtnljfoaacngamaaW.PrintWords
theorem bs {α β : Type} (x : α) (f : α → Option β) : (some x).bind f = f x := by
  cases h : (some x).bind f with
  | none => exact h.symm
  | some y => exact h.symm
theorem wrapN {i : Nat} (hi : i < 64) : IntKind.u64.wrap (i : Int) = (i : Int) := by rw [IntKind.wrap_u64]; omega
theorem wrapS {i : Nat} (hi : i < 64) : wrap64 ((i : Int) + 1) = ((i + 1 : Nat) : Int) := by unfold wrap64; omega
theorem shrN (x : W) (i : Nat) : shr .u64 (I x) (i : Int) = I (x >>> i) := by
  have := I_shr x (i : Int) (by omega)
  rwa [Int.toNat_natCast] at this
theorem shlN (x : W) (i : Nat) : shl .u64 (I x) (i : Int) = I (x <<< i) := by
  have := I_shl x (i : Int) (by omega)
  rwa [Int.toNat_natCast] at this
theorem low1 (x : W) (i : Nat) : (x >>> i) &&& 1#64 = if x.getLsbD i then 1#64 else 0#64 := by
  apply TM.eq_bits
  intro j
  rw [BitVec.getLsbD_and, BitVec.getLsbD_ushiftRight]
  by_cases hj : j = 0
  · subst hj
    rw [Nat.add_zero]
    cases x.getLsbD i <;> simp
  · cases x.getLsbD i <;> simp [hj]
theorem bitI (x : W) (i : Nat) : Go.bits .and .u64 (shr .u64 (I x) (i : Int)) 1 = if x.getLsbD i then 1 else 0 := by
  rw [shrN, show (1 : Int) = I 1#64 from rfl, I_and, low1]
  cases x.getLsbD i <;> rfl
theorem wrap01 (b : Bool) : wrap64 (if b = true then (1 : Int) else 0) = if b = true then 1 else 0 := by
  cases b <;> simp [wrap64]
theorem bit_eq (t : T) {i : Nat} (hi : i < 64) : wardenref03_bit.f (I t.v) (I t.m) (i : Int) = some (bitN t i) := by
  unfold wardenref03_bit.f
  rw [wrapN hi, if_pos (Int.natCast_nonneg _), bitI, bitI, wrap01]
  unfold bitN
  cases t.m.getLsbD i <;> cases t.v.getLsbD i <;> decide
theorem put_eq (t : T) {i : Nat} (hi : i < 64) (b : Int) : wardenref03_put.f (I t.v) (I t.m) (i : Int) b = some (I (putT t i b).v, I (putT t i b).m) := by
  unfold wardenref03_put.f putT
  rw [wrapN hi, show shl .u64 1 (i : Int) = I (1#64 <<< i) from shlN 1#64 i, I_or, I_or]
  by_cases h2 : b = 2
  · subst h2
    rw [if_pos rfl, if_pos (Int.natCast_nonneg _), if_neg (by decide), if_pos rfl]
  · rw [if_neg h2, if_neg h2]
    by_cases h1 : b = 1
    · rw [if_pos h1, if_pos (Int.natCast_nonneg _), if_pos h1]
    · rw [if_neg h1, if_neg h1]
/-! two together, bit by bit -/
def gBits (how : Int) (x y : Int) : Int := if how = 0 then TM.gJoin x y else if how = 1 then TM.gAnd x y else if how = 2 then TM.gOr x y else TM.gXor x y
theorem bits_step {how : Int} (hh : how = 0 ∨ how = 1 ∨ how = 2 ∨ how = 3) (a b t : T) {i : Nat} (hi : i < 64) (k : Nat) :
    ∃ k', k + 1 ≤ k' ∧ wardenref03_Bits.l0 (k + 3) how (i : Int) (I a.v) (I a.m) (I b.v) (I b.m) (I t.v) (I t.m) =
      wardenref03_Bits.l0 k' how ((i + 1 : Nat) : Int) (I a.v) (I a.m) (I b.v) (I b.m) (I (putT t i (gBits how (bitN a i) (bitN b i))).v) (I (putT t i (gBits how (bitN a i) (bitN b i))).m) := by
  have hlt : (i : Int) < 64 := by omega
  rw [show k + 3 = (k + 2) + 1 from rfl]
  generalize hK : k + 2 = K
  simp only [wardenref03_Bits.l0]
  rw [if_pos hlt, bit_eq a hi, bit_eq b hi, bs, bs, wrapS hi]
  subst hK
  rcases hh with rfl | rfl | rfl | rfl
  · refine ⟨k + 2, by omega, ?_⟩
    rcases bitN_cases a i with h | h | h <;> rcases bitN_cases b i with h' | h' | h' <;> rw [h, h'] <;> simp [put_eq t hi, gBits, TM.gJoin]
  · rcases bitN_cases a i with h | h | h <;> rcases bitN_cases b i with h' | h' | h' <;> rw [h, h'] <;> exact ⟨k + 1, by omega, by simp [wardenref03_Bits.j1, put_eq t hi, gBits, TM.gAnd, wrapS hi]⟩
  · rcases bitN_cases a i with h | h | h <;> rcases bitN_cases b i with h' | h' | h' <;> rw [h, h'] <;> exact ⟨k + 1, by omega, by simp [wardenref03_Bits.j2, put_eq t hi, gBits, TM.gOr, wrapS hi]⟩
  · refine ⟨k + 2, by omega, ?_⟩
    have e00 : Go.bits .xor .i64 0 0 = 0 := by decide
    have e01 : Go.bits .xor .i64 0 1 = 1 := by decide
    have e10 : Go.bits .xor .i64 1 0 = 1 := by decide
    have e11 : Go.bits .xor .i64 1 1 = 0 := by decide
    rcases bitN_cases a i with h | h | h <;> rcases bitN_cases b i with h' | h' | h' <;> rw [h, h'] <;> simp [put_eq t hi, gBits, TM.gXor, e00, e01, e10, e11]
theorem bits_loop {how : Int} (hh : how = 0 ∨ how = 1 ∨ how = 2 ∨ how = 3) (a b : T) : ∀ (d i k : Nat), i + d = 64 → 3 * d + 1 ≤ k →
    wardenref03_Bits.l0 k how (i : Int) (I a.v) (I a.m) (I b.v) (I b.m) (I (build (fun j => gBits how (bitN a j) (bitN b j)) i).v) (I (build (fun j => gBits how (bitN a j) (bitN b j)) i).m) =
      some (I (build (fun j => gBits how (bitN a j) (bitN b j)) 64).v, I (build (fun j => gBits how (bitN a j) (bitN b j)) 64).m)
  | 0, i, k, hi, hk => by
    obtain ⟨k, rfl⟩ : ∃ m, k = m + 1 := ⟨k - 1, by omega⟩
    obtain rfl : i = 64 := by omega
    simp only [wardenref03_Bits.l0]
    rw [if_neg (by omega)]
  | d + 1, i, k, hi, hk => by
    obtain ⟨k, rfl⟩ : ∃ m, k = m + 3 := ⟨k - 3, by omega⟩
    obtain ⟨k', hk', e⟩ := bits_step hh a b (build (fun j => gBits how (bitN a j) (bitN b j)) i) (show i < 64 by omega) k
    rw [e]
    exact bits_loop hh a b d (i + 1) k' (by omega) (by omega)
theorem bits_eq {how : Int} (hh : how = 0 ∨ how = 1 ∨ how = 2 ∨ how = 3) (a b : T) {k : Nat} (hk : 200 ≤ k) : wardenref03_Bits.f k (I a.v) (I a.m) (I b.v) (I b.m) how =
    some (I (build (fun j => gBits how (bitN a j) (bitN b j)) 64).v, I (build (fun j => gBits how (bitN a j) (bitN b j)) 64).m) := by
  unfold wardenref03_Bits.f
  exact bits_loop hh a b 64 0 k (by omega) (by omega)
theorem refJoin {a b : T} (ha : May a) (hb : May b) {k : Nat} (hk : 200 ≤ k) : wardenref03_Bits.f k (I a.v) (I a.m) (I b.v) (I b.m) 0 = some (I (TM.join a b).v, I (TM.join a b).m) := by
  rw [bits_eq (.inl rfl) a b hk, show (fun j => gBits 0 (bitN a j) (bitN b j)) = fun j => TM.gJoin (bitN a j) (bitN b j) from rfl, TM.join_build ha hb]
theorem refAnd {a b : T} (ha : May a) (hb : May b) {k : Nat} (hk : 200 ≤ k) : wardenref03_Bits.f k (I a.v) (I a.m) (I b.v) (I b.m) 1 = some (I (TM.band a b).v, I (TM.band a b).m) := by
  rw [bits_eq (.inr (.inl rfl)) a b hk, show (fun j => gBits 1 (bitN a j) (bitN b j)) = fun j => TM.gAnd (bitN a j) (bitN b j) from rfl, TM.and_build ha hb]
theorem refOr {a b : T} (ha : May a) (hb : May b) {k : Nat} (hk : 200 ≤ k) : wardenref03_Bits.f k (I a.v) (I a.m) (I b.v) (I b.m) 2 = some (I (TM.bor a b).v, I (TM.bor a b).m) := by
  rw [bits_eq (.inr (.inr (.inl rfl))) a b hk, show (fun j => gBits 2 (bitN a j) (bitN b j)) = fun j => TM.gOr (bitN a j) (bitN b j) from rfl, TM.or_build ha hb]
theorem refXor {a b : T} (ha : May a) (hb : May b) {k : Nat} (hk : 200 ≤ k) : wardenref03_Bits.f k (I a.v) (I a.m) (I b.v) (I b.m) 3 = some (I (TM.bxor a b).v, I (TM.bxor a b).m) := by
  rw [bits_eq (.inr (.inr (.inr rfl))) a b hk, show (fun j => gBits 3 (bitN a j) (bitN b j)) = fun j => TM.gXor (bitN a j) (bitN b j) from rfl, TM.xor_build ha hb]
end Go.Proofs.Ytnljfoaacngamaa.BR
