/- Plain mathematics of tnums: sides, lesser sets, shifts. No program here. -/
import Derived.Test.YtnljfoaacngamaaMath
set_option linter.unusedVariables false
set_option linter.unusedSimpArgs false
namespace Go.Proofs.Ytnljfoaacngamaa.TM
theorem T.ext2 {a b : T} (h1 : a.v = b.v) (h2 : a.m = b.m) : a = b := by
  cases a; cases b; simp_all
theorem T.bits {a b : T} (h : ∀ i, i < 64 → a.v.getLsbD i = b.v.getLsbD i ∧ a.m.getLsbD i = b.m.getLsbD i) : a = b :=
  T.ext2 (BitVec.eq_of_getLsbD_eq fun i hi => (h i hi).1) (BitVec.eq_of_getLsbD_eq fun i hi => (h i hi).2)
theorem add_comm (a b : T) : add a b = add b a := by
  unfold add addU
  rw [BitVec.add_comm a.v b.v, BitVec.add_comm a.m b.m, BitVec.or_assoc, BitVec.or_comm a.m b.m, ← BitVec.or_assoc]
theorem and_comm (a b : T) : band a b = band b a := by
  unfold band
  rw [BitVec.and_comm a.v b.v, BitVec.and_comm (a.v ||| a.m)]
theorem or_comm (a b : T) : bor a b = bor b a := by
  unfold bor
  rw [BitVec.or_comm a.v b.v, BitVec.or_comm a.m b.m]
theorem xor_comm (a b : T) : bxor a b = bxor b a := by
  unfold bxor
  rw [BitVec.xor_comm a.v b.v, BitVec.or_comm a.m b.m]
theorem join_comm (a b : T) : join a b = join b a := by
  refine T.bits fun i hi => ?_
  simp only [join, mk, andnot_bit, BitVec.getLsbD_or, BitVec.getLsbD_xor]
  cases a.v.getLsbD i <;> cases a.m.getLsbD i <;> cases b.v.getLsbD i <;> cases b.m.getLsbD i <;> simp
theorem sub_zero {t : T} (ht : May t) : sub t ⟨0#64, 0#64⟩ = t := by
  refine T.bits fun i hi => ?_
  have hb := may_bits.1 ht i
  have e : t.v + t.m = t.v ||| t.m := add_or ht
  have e2 : subU t.v t.m 0#64 0#64 = t.m := by
    unfold subU
    rw [BitVec.sub_zero, BitVec.sub_zero, e, BitVec.or_zero]
    apply eq_bits; intro j
    have := may_bits.1 ht j
    simp only [BitVec.getLsbD_or, BitVec.getLsbD_xor]
    revert this
    cases t.m.getLsbD j <;> cases t.v.getLsbD j <;> simp
  unfold sub
  rw [e2, BitVec.sub_zero]
  simp only [mk, andnot_bit]
  revert hb
  cases t.m.getLsbD i <;> cases t.v.getLsbD i <;> simp
theorem and_all {t : T} (ht : May t) : band t ⟨BitVec.allOnes 64, 0#64⟩ = t := by
  refine T.bits fun i hi => ?_
  have hb := may_bits.1 ht i
  simp only [band, andnot_bit, BitVec.getLsbD_and, BitVec.getLsbD_or, BitVec.getLsbD_allOnes, hi, decide_true, Bool.and_true]
  revert hb
  cases t.m.getLsbD i <;> cases t.v.getLsbD i <;> simp
theorem or_zero {t : T} (ht : May t) : bor t ⟨0#64, 0#64⟩ = t := by
  refine T.bits fun i hi => ?_
  have hb := may_bits.1 ht i
  simp only [bor, andnot_bit, BitVec.or_zero]
  revert hb
  cases t.m.getLsbD i <;> cases t.v.getLsbD i <;> simp
theorem xor_zero {t : T} (ht : May t) : bxor t ⟨0#64, 0#64⟩ = t := by
  refine T.bits fun i hi => ?_
  have hb := may_bits.1 ht i
  simp only [bxor, mk, andnot_bit, BitVec.or_zero, BitVec.xor_zero]
  revert hb
  cases t.m.getLsbD i <;> cases t.v.getLsbD i <;> simp
theorem join_self {t : T} (ht : May t) : join t t = t := by
  refine T.bits fun i hi => ?_
  have hb := may_bits.1 ht i
  simp only [join, mk, andnot_bit, BitVec.getLsbD_or, BitVec.getLsbD_xor]
  revert hb
  cases t.m.getLsbD i <;> cases t.v.getLsbD i <;> simp
theorem zero_add {t : T} (ht : May t) : add ⟨0#64, 0#64⟩ t = t := by rw [add_comm, add_zero ht]
theorem zz (n : Nat) : shl ⟨0#64, 0#64⟩ n = z := by simp [shl, z]
theorem mul_zero (a : T) : mul a ⟨0#64, 0#64⟩ = ⟨0#64, 0#64⟩ := by
  unfold mul
  rw [mulR_done_b 64 0 (may_zero _) (fun j _ => by simp [shl, z])]
  show add ⟨0#64, 0#64⟩ ⟨a.v * 0#64, 0#64⟩ = _
  rw [BitVec.mul_zero, add_zero (may_zero _)]
theorem zero_mul (a : T) : mul ⟨0#64, 0#64⟩ a = ⟨0#64, 0#64⟩ := by
  unfold mul
  rw [mulR_done 64 0 (fun j _ => by simp)]
  show add ⟨0#64, 0#64⟩ ⟨0#64 * a.v, 0#64⟩ = _
  rw [BitVec.zero_mul, add_zero (may_zero _)]
theorem meets_comm (a b : T) : meets a b ↔ meets b a := by
  unfold meets
  rw [BitVec.xor_comm, BitVec.or_comm]
theorem meet_comm (a b : T) : meet a b = meet b a := by
  unfold meet
  rw [BitVec.or_comm, BitVec.and_comm]
theorem meets_self (a : T) : meets a a := by
  unfold meets
  rw [zero_bits]; intro i
  rw [andnot_bit, BitVec.getLsbD_xor]
  cases a.v.getLsbD i <;> simp
theorem meet_self {t : T} (ht : May t) : meet t t = t := by
  refine T.bits fun i hi => ?_
  have hb := may_bits.1 ht i
  simp only [meet, mk, andnot_bit, BitVec.getLsbD_or, BitVec.getLsbD_and]
  revert hb
  cases t.m.getLsbD i <;> cases t.v.getLsbD i <;> simp
/-! lesser sets -/
theorem In.btw_v {c a : T} (ha : May a) (h : In c a) : Btw a.v a.m c.v := by
  rw [in_bits] at h
  constructor
  · intro i hi
    have := h i
    revert this
    rw [hi]
    cases c.v.getLsbD i <;> simp
  · intro i hi
    have := h i
    rw [BitVec.getLsbD_or]
    revert this
    rw [hi]
    cases a.m.getLsbD i <;> cases a.v.getLsbD i <;> simp
theorem In.btw_vm {c a : T} (ha : May a) (h : In c a) : Btw a.v a.m (c.v ||| c.m) := by
  rw [in_bits] at h
  constructor
  · intro i hi
    have := h i
    rw [BitVec.getLsbD_or]
    revert this
    rw [hi]
    cases c.v.getLsbD i <;> simp
  · intro i hi
    have := h i
    rw [BitVec.getLsbD_or] at hi ⊢
    revert this hi
    cases a.m.getLsbD i <;> cases a.v.getLsbD i <;> cases c.v.getLsbD i <;> cases c.m.getLsbD i <;> simp
theorem in_mk {s u s' u' : W} (h : ∀ i, i < 64 → u'.getLsbD i = false → u.getLsbD i = false ∧ s.getLsbD i = s'.getLsbD i) : In (mk s u) (mk s' u') := by
  rw [in_bits]
  intro i
  simp only [mk, andnot_bit]
  by_cases hi : i < 64
  · have := h i hi
    revert this
    cases u'.getLsbD i <;> cases u.getLsbD i <;> cases s.getLsbD i <;> cases s'.getLsbD i <;> simp
  · have e : ∀ z : W, z.getLsbD i = false := fun z => BitVec.getLsbD_of_ge _ _ (by omega)
    simp only [e]; decide
theorem addU_bit {v m w n : W} {i : Nat} : (addU v m w n).getLsbD i = ((((m + n + (v + w)).getLsbD i ^^ (v + w).getLsbD i) || m.getLsbD i) || n.getLsbD i) := by
  unfold addU
  simp only [BitVec.getLsbD_or, BitVec.getLsbD_xor]
theorem subU_bit {v m w n : W} {i : Nat} : (subU v m w n).getLsbD i = ((((v - w + m).getLsbD i ^^ (v - w - n).getLsbD i) || m.getLsbD i) || n.getLsbD i) := by
  unfold subU
  simp only [BitVec.getLsbD_or, BitVec.getLsbD_xor]
theorem In.m {c a : T} (h : In c a) {i : Nat} (ha : a.m.getLsbD i = false) : c.m.getLsbD i = false := by
  have := (in_bits.1 h i).1
  rw [ha] at this
  simpa using this
theorem add_in {a b c d : T} (ha : May a) (hb : May b) (hc : May c) (hd : May d) (h1 : In c a) (h2 : In d b) : In (add c d) (add a b) := by
  refine in_mk fun i hi hu => ?_
  have e1 := add_bit ha hb (h1.btw_v ha) (h2.btw_v hb) hi hu
  have e2 := add_bit ha hb (h1.btw_vm ha) (h2.btw_vm hb) hi hu
  refine ⟨?_, e1⟩
  rw [addU_bit] at hu
  simp only [Bool.or_eq_false_iff] at hu
  rw [addU_bit, add_sigma hc hd, e1, e2, h1.m hu.1.2, h2.m hu.2]
  simp
theorem sub_in {a b c d : T} (ha : May a) (hb : May b) (hc : May c) (hd : May d) (h1 : In c a) (h2 : In d b) : In (sub c d) (sub a b) := by
  refine in_mk fun i hi hu => ?_
  have e1 := sub_bit' ha hb (h1.btw_v ha) (h2.btw_v hb) hi hu
  have e2 := sub_bit' ha hb (h1.btw_vm ha) (h2.btw_v hb) hi hu
  have e3 := sub_bit' ha hb (h1.btw_v ha) (h2.btw_vm hb) hi hu
  refine ⟨?_, e1⟩
  rw [subU_bit] at hu
  simp only [Bool.or_eq_false_iff] at hu
  rw [subU_bit, sub_hi hc, sub_lo hd, e2, e3, h1.m hu.1.2, h2.m hu.2]
  simp
theorem and_in {a b c d : T} (ha : May a) (hb : May b) (hc : May c) (hd : May d) (h1 : In c a) (h2 : In d b) : In (band c d) (band a b) := by
  rw [in_bits] at *
  intro i
  have := h1 i; have := h2 i; have := may_bits.1 ha i; have := may_bits.1 hb i; have := may_bits.1 hc i; have := may_bits.1 hd i
  simp only [band, andnot_bit, BitVec.getLsbD_and, BitVec.getLsbD_or] at *
  generalize a.v.getLsbD i = p1 at *; generalize a.m.getLsbD i = p2 at *; generalize b.v.getLsbD i = p3 at *; generalize b.m.getLsbD i = p4 at *
  generalize c.v.getLsbD i = p5 at *; generalize c.m.getLsbD i = p6 at *; generalize d.v.getLsbD i = p7 at *; generalize d.m.getLsbD i = p8 at *
  clear ha hb hc hd h1 h2
  revert p1 p2 p3 p4 p5 p6 p7 p8
  decide
theorem or_in {a b c d : T} (ha : May a) (hb : May b) (hc : May c) (hd : May d) (h1 : In c a) (h2 : In d b) : In (bor c d) (bor a b) := by
  rw [in_bits] at *
  intro i
  have := h1 i; have := h2 i; have := may_bits.1 ha i; have := may_bits.1 hb i; have := may_bits.1 hc i; have := may_bits.1 hd i
  simp only [bor, andnot_bit, BitVec.getLsbD_and, BitVec.getLsbD_or] at *
  generalize a.v.getLsbD i = p1 at *; generalize a.m.getLsbD i = p2 at *; generalize b.v.getLsbD i = p3 at *; generalize b.m.getLsbD i = p4 at *
  generalize c.v.getLsbD i = p5 at *; generalize c.m.getLsbD i = p6 at *; generalize d.v.getLsbD i = p7 at *; generalize d.m.getLsbD i = p8 at *
  clear ha hb hc hd h1 h2
  revert p1 p2 p3 p4 p5 p6 p7 p8
  decide
theorem xor_in {a b c d : T} (ha : May a) (hb : May b) (hc : May c) (hd : May d) (h1 : In c a) (h2 : In d b) : In (bxor c d) (bxor a b) := by
  refine in_mk fun i hi hu => ?_
  have k1 := in_bits.1 h1 i; have k2 := in_bits.1 h2 i
  simp only [BitVec.getLsbD_or, BitVec.getLsbD_xor, Bool.or_eq_false_iff] at hu ⊢
  obtain ⟨hu1, hu2⟩ := hu
  rw [hu1] at k1
  rw [hu2] at k2
  revert k1 k2
  cases a.v.getLsbD i <;> cases b.v.getLsbD i <;> cases c.v.getLsbD i <;> cases c.m.getLsbD i <;> cases d.v.getLsbD i <;> cases d.m.getLsbD i <;> simp
theorem shl_in {a c : T} (n : Nat) (h : In c a) : In (shl c n) (shl a n) := by
  rw [in_bits] at *
  intro i
  have := h (i - n)
  simp only [shl, BitVec.getLsbD_shiftLeft]
  revert this
  cases decide (i < 64) <;> cases decide (i < n) <;> cases a.v.getLsbD (i - n) <;> cases a.m.getLsbD (i - n) <;> cases c.v.getLsbD (i - n) <;> cases c.m.getLsbD (i - n) <;> simp
theorem sar_in {a c : T} (n : Nat) (h : In c a) : In (sar c n) (sar a n) := by
  rw [in_bits] at *
  intro i
  have := h (min (n + i) 63)
  simp only [sar, sar_bit]
  revert this
  cases decide (i < 64) <;> simp
theorem in_join {c d : T} (hc : May c) : In c (join c d) := by
  rw [in_bits]
  intro i
  have := may_bits.1 hc i
  simp only [join, mk, andnot_bit, BitVec.getLsbD_or, BitVec.getLsbD_xor]
  revert this
  cases c.v.getLsbD i <;> cases c.m.getLsbD i <;> cases d.v.getLsbD i <;> cases d.m.getLsbD i <;> simp
theorem some_in {a : T} (ha : May a) (x : W) : In (mk (a.v ||| (x &&& a.m)) (a.m &&& x)) a := by
  rw [in_bits]
  intro i
  have := may_bits.1 ha i
  simp only [mk, andnot_bit, BitVec.getLsbD_or, BitVec.getLsbD_and]
  revert this
  cases a.v.getLsbD i <;> cases a.m.getLsbD i <;> cases x.getLsbD i <;> simp
theorem mulR_const (v w : W) : ∀ (d i : Nat) {t : T}, May t → mulR ⟨v, 0#64⟩ ⟨w, 0#64⟩ d i t = t
  | 0, _, _, _ => rfl
  | d + 1, i, t, ht => by
    have e : stepR ⟨v, 0#64⟩ ⟨w, 0#64⟩ i t = t := by
      unfold stepR
      have : (0#64 <<< i : W) = 0#64 := by simp
      simp only [BitVec.getLsbD_zero, Bool.false_eq_true, if_false, this]
      rw [add_zero ht]; simp
    rw [mulR, e, mulR_const v w d (i + 1) ht]
theorem mul_const (v w : W) : mul ⟨v, 0#64⟩ ⟨w, 0#64⟩ = ⟨v * w, 0#64⟩ := by
  unfold mul
  rw [mulR_const v w 64 0 (may_zero _), zero_add (may_const _)]
theorem add_const (v w : W) : add ⟨v, 0#64⟩ ⟨w, 0#64⟩ = ⟨v + w, 0#64⟩ := by
  refine T.bits fun i hi => ?_
  unfold add addU
  simp only [mk, andnot_bit]
  simp
theorem sub_const (v w : W) : sub ⟨v, 0#64⟩ ⟨w, 0#64⟩ = ⟨v - w, 0#64⟩ := by
  refine T.bits fun i hi => ?_
  unfold sub subU
  simp only [mk, andnot_bit]
  simp
/-! shifts -/
theorem shl_shr {a : T} {n : Nat} (hn : n < 64) : shr (shl a n) n = low a (64 - n) := by
  refine T.bits fun i hi => ?_
  simp only [shr, shl, low, BitVec.getLsbD_ushiftRight, BitVec.getLsbD_shiftLeft, BitVec.getLsbD_and, lows_bit, hi, decide_true, Bool.and_true]
  have e1 : n + i - n = i := by omega
  have e2 : decide (n + i < n) = false := by simp
  have e3 : decide (n + i < 64) = decide (i < 64 - n) := by congr 1; apply propext; omega
  rw [e1, e2, e3]
  cases decide (i < 64 - n) <;> simp
theorem shr_shl {a : T} (ha : May a) {n : Nat} (hn : n < 64) : shl (shr a n) n = band a ⟨BitVec.allOnes 64 <<< n, 0#64⟩ := by
  refine T.bits fun i hi => ?_
  have := may_bits.1 ha i
  simp only [shr, shl, band, andnot_bit, BitVec.getLsbD_ushiftRight, BitVec.getLsbD_shiftLeft, BitVec.getLsbD_and, BitVec.getLsbD_or, BitVec.getLsbD_allOnes, hi, decide_true, Bool.true_and, BitVec.or_zero]
  by_cases h : i < n
  · simp [h]
  · have e1 : n + (i - n) = i := by omega
    have e2 : i - n < 64 := by omega
    rw [e1]
    revert this
    cases a.v.getLsbD i <;> cases a.m.getLsbD i <;> simp [h, e2]
theorem sar_sar (a : T) (n k : Nat) : sar (sar a n) k = sar a (n + k) := by
  refine T.bits fun i hi => ?_
  simp only [sar, sar_bit, hi, decide_true, Bool.true_and]
  have e1 : min (k + i) 63 < 64 := by omega
  have e2 : min (n + min (k + i) 63) 63 = min (n + k + i) 63 := by omega
  simp only [e1, e2, decide_true, Bool.true_and]
  simp
theorem low_low (a : T) (n k : Nat) : low (low a n) k = low a (min n k) := by
  refine T.bits fun i hi => ?_
  simp only [low, BitVec.getLsbD_and, lows_bit, hi, decide_true, Bool.and_true]
  have e : decide (i < min n k) = (decide (i < n) && decide (i < k)) := by
    rw [← Bool.decide_and]; congr 1; apply propext; omega
  rw [e]
  constructor <;> rw [Bool.and_assoc]
end Go.Proofs.Ytnljfoaacngamaa.TM
