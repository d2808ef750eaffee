/- Plain mathematics of tnums over words of 64 bits: what sums, differences, products and the rest have. No program here. -/
namespace Go.Proofs.Ytnljfoaacngamaa.TM
set_option linter.unusedSimpArgs false
set_option linter.unusedVariables false
abbrev W := BitVec 64
/-- x's bits are y's. -/
def Le (x y : W) : Prop := ∀ i, x.getLsbD i = true → y.getLsbD i = true
theorem Le.refl (x : W) : Le x x := fun _ h => h
theorem Le.trans {x y z : W} (h : Le x y) (k : Le y z) : Le x z := fun i hi => k i (h i hi)
theorem Le.not {x y : W} (h : Le x y) : Le (~~~y) (~~~x) := by
  intro i hi
  simp only [BitVec.getLsbD_not, Bool.and_eq_true, decide_eq_true_eq, Bool.not_eq_true'] at hi ⊢
  refine ⟨hi.1, ?_⟩
  cases hx : x.getLsbD i
  · rfl
  · rw [h i hx] at hi; cases hi.2
theorem Le.and {x y : W} (h : Le x y) : x &&& y = x := by
  apply BitVec.eq_of_getLsbD_eq
  intro i hi
  have := h i
  rw [BitVec.getLsbD_and]
  cases hx : x.getLsbD i
  · rfl
  · simp [this hx]
theorem mod_mono {x y : W} (h : Le x y) (i : Nat) : x.toNat % 2 ^ i ≤ y.toNat % 2 ^ i := by
  have e : x.toNat % 2 ^ i = (x.toNat % 2 ^ i) &&& (y.toNat % 2 ^ i) := by
    rw [← Nat.and_mod_two_pow, ← BitVec.toNat_and, h.and]
  rw [e]
  exact Nat.and_le_right
theorem carry_mono {x y x' y' : W} (hx : Le x x') (hy : Le y y') (c : Bool) (i : Nat) : BitVec.carry i x y c = true → BitVec.carry i x' y' c = true := by
  unfold BitVec.carry
  have := mod_mono hx i
  have := mod_mono hy i
  simp only [ge_iff_le, decide_eq_true_eq]
  omega
theorem sub_carry (x y : W) : x - y = x + ~~~y + BitVec.setWidth 64 (BitVec.ofBool true) := by
  have : (BitVec.setWidth 64 (BitVec.ofBool true) : W) = 1#64 := by decide
  rw [this, BitVec.add_assoc, ← BitVec.neg_eq_not_add, BitVec.sub_eq_add_neg]
theorem sub_bit (x y : W) {i : Nat} (hi : i < 64) : (x - y).getLsbD i = (x.getLsbD i ^^ (!y.getLsbD i ^^ BitVec.carry i x (~~~y) true)) := by
  rw [sub_carry, BitVec.getLsbD_add_add_bool hi]
  simp [hi]
theorem add_or {x y : W} (h : x &&& y = 0) : x + y = x ||| y := BitVec.add_eq_or_of_and_eq_zero _ _ h
theorem disj {x y : W} (h : x &&& y = 0) (i : Nat) : (x.getLsbD i && y.getLsbD i) = false := by
  rw [← BitVec.getLsbD_and, h]; simp
/-- what a number's bits are between. -/
structure Btw (v m p : W) : Prop where
  lo : Le v p
  hi : Le p (v ||| m)
theorem Btw.at {v m p : W} (h : Btw v m p) {i : Nat} (hm : m.getLsbD i = false) : p.getLsbD i = v.getLsbD i := by
  have h1 := h.lo i
  have h2 := h.hi i
  rw [BitVec.getLsbD_or, hm] at h2
  cases hp : p.getLsbD i <;> cases hv : v.getLsbD i <;> simp_all
def addU (v m w n : W) : W := ((m + n + (v + w)) ^^^ (v + w)) ||| m ||| n
theorem add_sigma {v m w n : W} (hv : v &&& m = 0) (hw : w &&& n = 0) : m + n + (v + w) = (v ||| m) + (w ||| n) := by
  rw [← add_or hv, ← add_or hw, ← BitVec.add_assoc, BitVec.add_assoc m n v, BitVec.add_comm n v, ← BitVec.add_assoc, BitVec.add_assoc (m + v), BitVec.add_comm n w, BitVec.add_comm m v]
theorem add_bit {v m w n p q : W} (hv : v &&& m = 0) (hw : w &&& n = 0) (hp : Btw v m p) (hq : Btw w n q) {i : Nat} (hi : i < 64) (hu : (addU v m w n).getLsbD i = false) :
    (p + q).getLsbD i = (v + w).getLsbD i := by
  unfold addU at hu
  rw [add_sigma hv hw] at hu
  simp only [BitVec.getLsbD_or, BitVec.getLsbD_xor, Bool.or_eq_false_iff, BitVec.getLsbD_add hi] at hu ⊢
  obtain ⟨⟨h1, h2⟩, h3⟩ := hu
  rw [hp.at h2, hq.at h3]
  have c1 := carry_mono hp.lo hq.lo false i
  have c2 := carry_mono hp.hi hq.hi false i
  rw [h2, h3] at h1
  revert h1 c1 c2
  cases v.getLsbD i <;> cases w.getLsbD i <;> cases BitVec.carry i v w false <;> cases BitVec.carry i p q false <;> cases BitVec.carry i (v ||| m) (w ||| n) false <;> simp
def subU (v m w n : W) : W := ((v - w + m) ^^^ (v - w - n)) ||| m ||| n
theorem sub_hi {v m w : W} (hv : v &&& m = 0) : v - w + m = (v ||| m) - w := by
  rw [← add_or hv]; simp only [BitVec.sub_eq_add_neg, BitVec.add_assoc]; rw [BitVec.add_comm m]
theorem sub_lo {v w n : W} (hw : w &&& n = 0) : v - w - n = v - (w ||| n) := by
  rw [← add_or hw]; apply BitVec.eq_of_toNat_eq; simp only [BitVec.toNat_sub, BitVec.toNat_add]; omega
theorem Le.or_left (x y : W) : Le x (x ||| y) := fun i h => by rw [BitVec.getLsbD_or, h]; rfl
theorem sub_bit' {v m w n p q : W} (hv : v &&& m = 0) (hw : w &&& n = 0) (hp : Btw v m p) (hq : Btw w n q) {i : Nat} (hi : i < 64) (hu : (subU v m w n).getLsbD i = false) :
    (p - q).getLsbD i = (v - w).getLsbD i := by
  unfold subU at hu
  rw [sub_hi hv, sub_lo hw] at hu
  simp only [BitVec.getLsbD_or, BitVec.getLsbD_xor, Bool.or_eq_false_iff, sub_bit _ _ hi] at hu ⊢
  obtain ⟨⟨h1, h2⟩, h3⟩ := hu
  rw [hp.at h2, hq.at h3]
  have c1 := carry_mono hp.lo hq.hi.not true i
  have c2 := carry_mono hp.hi hq.lo.not true i
  have c3 := carry_mono (Le.refl v) (Le.or_left w n).not true i
  have c4 := carry_mono (Le.or_left v m) (Le.refl (~~~w)) true i
  rw [h2, h3] at h1
  revert h1 c1 c2 c3 c4
  cases v.getLsbD i <;> cases w.getLsbD i <;> cases BitVec.carry i v (~~~(w ||| n)) true <;> cases BitVec.carry i p (~~~q) true <;> cases BitVec.carry i (v ||| m) (~~~w) true <;> cases BitVec.carry i v (~~~w) true <;> simp
/-- x without y -/
def andn (x y : W) : W := x &&& ~~~y
/-- A tnum over words. -/
structure T where
  v : W
  m : W
deriving DecidableEq
def mk (v m : W) : T := ⟨andn v m, m⟩
def May (t : T) : Prop := t.v &&& t.m = 0
def Has (t : T) (x : W) : Prop := andn x t.m = t.v
def In (a b : T) : Prop := andn a.m b.m = 0 ∧ andn a.v b.m = b.v
theorem eq_bits {x y : W} (h : ∀ i, x.getLsbD i = y.getLsbD i) : x = y := BitVec.eq_of_getLsbD_eq fun i _ => h i
theorem bits_eq {x y : W} (h : x = y) (i : Nat) : x.getLsbD i = y.getLsbD i := by rw [h]
theorem zero_bits {x : W} : x = 0 ↔ ∀ i, x.getLsbD i = false := ⟨fun h i => by rw [h]; simp, fun h => eq_bits fun i => by rw [h i]; simp⟩
theorem not_bit (x : W) (i : Nat) : (~~~x).getLsbD i = (decide (i < 64) && !x.getLsbD i) := BitVec.getLsbD_not
theorem andnot_bit (x y : W) (i : Nat) : (andn x y).getLsbD i = (x.getLsbD i && !y.getLsbD i) := by
  unfold andn
  rw [BitVec.getLsbD_and, not_bit]
  cases h : x.getLsbD i
  · rfl
  · have : i < 64 := BitVec.lt_of_getLsbD h
    simp [this]
theorem has_bits {t : T} {x : W} : Has t x ↔ ∀ i, (x.getLsbD i && !t.m.getLsbD i) = t.v.getLsbD i := by
  constructor
  · intro h i
    rw [← andnot_bit, h]
  · intro h
    exact eq_bits fun i => by rw [andnot_bit, h i]
theorem may_bits {t : T} : May t ↔ ∀ i, (t.v.getLsbD i && t.m.getLsbD i) = false := by
  unfold May
  rw [zero_bits]
  simp only [BitVec.getLsbD_and]
theorem in_bits {a b : T} : In a b ↔ ∀ i, (a.m.getLsbD i && !b.m.getLsbD i) = false ∧ (a.v.getLsbD i && !b.m.getLsbD i) = b.v.getLsbD i := by
  constructor
  · rintro ⟨h, k⟩ i
    rw [← andnot_bit, ← andnot_bit, h, k]
    simp
  · intro h
    exact ⟨zero_bits.2 fun i => by rw [andnot_bit]; exact (h i).1, eq_bits fun i => by rw [andnot_bit]; exact (h i).2⟩
theorem may_mk (v m : W) : May (mk v m) := by
  rw [may_bits]
  intro i
  simp only [mk, andnot_bit]
  cases v.getLsbD i <;> cases m.getLsbD i <;> rfl
theorem Has.btw {t : T} {x : W} (h : Has t x) : Btw t.v t.m x := by
  rw [has_bits] at h
  refine ⟨fun i hi => ?_, fun i hi => ?_⟩
  · have := h i
    rw [hi] at this
    cases hx : x.getLsbD i
    · rw [hx] at this; simp at this
    · rfl
  · have := h i
    rw [hi] at this
    rw [BitVec.getLsbD_or, ← this]
    cases t.m.getLsbD i <;> rfl
/-- What `of` has: the bits that are known are v's. -/
theorem has_mk {v m x : W} (h : ∀ i, i < 64 → m.getLsbD i = false → x.getLsbD i = v.getLsbD i) : Has (mk v m) x := by
  rw [has_bits]
  intro i
  simp only [mk, andnot_bit]
  by_cases hi : i < 64
  · have := h i hi
    cases hm : m.getLsbD i
    · rw [this hm]
    · simp
  · have e : ∀ z : W, z.getLsbD i = false := fun z => BitVec.getLsbD_of_ge _ _ (by omega)
    simp only [e]
def add (a b : T) : T := mk (a.v + b.v) (addU a.v a.m b.v b.m)
def sub (a b : T) : T := mk (a.v - b.v) (subU a.v a.m b.v b.m)
theorem add_has {a b : T} {p q : W} (ha : May a) (hb : May b) (hp : Has a p) (hq : Has b q) : Has (add a b) (p + q) :=
  has_mk fun _ hi hm => add_bit ha hb hp.btw hq.btw hi hm
theorem sub_has {a b : T} {p q : W} (ha : May a) (hb : May b) (hp : Has a p) (hq : Has b q) : Has (sub a b) (p - q) :=
  has_mk fun _ hi hm => sub_bit' ha hb hp.btw hq.btw hi hm
def band (a b : T) : T := ⟨a.v &&& b.v, andn ((a.v ||| a.m) &&& (b.v ||| b.m)) (a.v &&& b.v)⟩
def bor (a b : T) : T := ⟨a.v ||| b.v, andn (a.m ||| b.m) (a.v ||| b.v)⟩
def bxor (a b : T) : T := mk (a.v ^^^ b.v) (a.m ||| b.m)
def join (a b : T) : T := mk a.v (a.m ||| b.m ||| (a.v ^^^ b.v))
theorem and_has {a b : T} {p q : W} (hp : Has a p) (hq : Has b q) : Has (band a b) (p &&& q) := by
  rw [has_bits] at *
  intro i
  simp only [band, BitVec.getLsbD_and, BitVec.getLsbD_or, andnot_bit, ← hp i, ← hq i]
  cases p.getLsbD i <;> cases q.getLsbD i <;> cases a.m.getLsbD i <;> cases b.m.getLsbD i <;> rfl
theorem or_has {a b : T} {p q : W} (hp : Has a p) (hq : Has b q) : Has (bor a b) (p ||| q) := by
  rw [has_bits] at *
  intro i
  simp only [bor, BitVec.getLsbD_and, BitVec.getLsbD_or, andnot_bit, ← hp i, ← hq i]
  cases p.getLsbD i <;> cases q.getLsbD i <;> cases a.m.getLsbD i <;> cases b.m.getLsbD i <;> rfl
theorem xor_has {a b : T} {p q : W} (hp : Has a p) (hq : Has b q) : Has (bxor a b) (p ^^^ q) := by
  rw [has_bits] at *
  intro i
  simp only [bxor, mk, BitVec.getLsbD_and, BitVec.getLsbD_or, BitVec.getLsbD_xor, andnot_bit, ← hp i, ← hq i]
  cases p.getLsbD i <;> cases q.getLsbD i <;> cases a.m.getLsbD i <;> cases b.m.getLsbD i <;> rfl
theorem join_has_left {a b : T} {p : W} (ha : May a) (hp : Has a p) : Has (join a b) p := by
  rw [has_bits] at *
  rw [may_bits] at ha
  intro i
  have := ha i
  simp only [join, mk, BitVec.getLsbD_and, BitVec.getLsbD_or, BitVec.getLsbD_xor, andnot_bit, ← hp i] at *
  cases p.getLsbD i <;> cases b.v.getLsbD i <;> cases a.m.getLsbD i <;> cases b.m.getLsbD i <;> rfl
theorem join_has_right {a b : T} {q : W} (ha : May a) (hq : Has b q) : Has (join a b) q := by
  rw [has_bits] at *
  rw [may_bits] at ha
  intro i
  have := ha i
  simp only [join, mk, BitVec.getLsbD_and, BitVec.getLsbD_or, BitVec.getLsbD_xor, andnot_bit, ← hq i] at *
  revert this
  cases q.getLsbD i <;> cases a.v.getLsbD i <;> cases a.m.getLsbD i <;> cases b.m.getLsbD i <;> simp
def shl (t : T) (n : Nat) : T := ⟨t.v <<< n, t.m <<< n⟩
def shr (t : T) (n : Nat) : T := ⟨t.v >>> n, t.m >>> n⟩
def sar (t : T) (n : Nat) : T := ⟨t.v.sshiftRight n, t.m.sshiftRight n⟩
theorem shl_has {a : T} {p : W} (n : Nat) (hp : Has a p) : Has (shl a n) (p <<< n) := by
  rw [has_bits] at *
  intro i
  simp only [shl, BitVec.getLsbD_shiftLeft, ← hp]
  cases decide (i < 64) <;> cases decide (i < n) <;> cases p.getLsbD (i - n) <;> cases a.m.getLsbD (i - n) <;> rfl
theorem shr_has {a : T} {p : W} (n : Nat) (hp : Has a p) : Has (shr a n) (p >>> n) := by
  rw [has_bits] at *
  intro i
  simp only [shr, BitVec.getLsbD_ushiftRight, ← hp]
theorem sar_bit (x : W) (n i : Nat) : (x.sshiftRight n).getLsbD i = (decide (i < 64) && x.getLsbD (min (n + i) 63)) := by
  rw [BitVec.getLsbD_sshiftRight, BitVec.msb_eq_getLsbD_last]
  by_cases h : i < 64
  · rw [show (!decide (64 ≤ i)) = true by simp; omega]
    by_cases k : n + i < 64
    · rw [if_pos k, show min (n + i) 63 = n + i by omega]; simp [h]
    · rw [if_neg k, show min (n + i) 63 = 63 by omega]; simp [h]
  · rw [show (!decide (64 ≤ i)) = false by simp; omega]; simp [h]
theorem sar_has {a : T} {p : W} (n : Nat) (hp : Has a p) : Has (sar a n) (p.sshiftRight n) := by
  rw [has_bits] at *
  intro i
  simp only [sar, sar_bit, ← hp]
  cases decide (i < 64) <;> simp
/-- the lowest n bits -/
def lows (n : Nat) : W := (1#64 <<< n) - 1#64
theorem lows_bit (n i : Nat) : (lows n).getLsbD i = (decide (i < n) && decide (i < 64)) := by
  unfold lows
  by_cases h : n < 64
  · have e : ((1#64 <<< n) - 1#64).toNat = 2 ^ n - 1 := by
      have h1 : 2 ^ n < 2 ^ 64 := Nat.pow_lt_pow_right (by omega) h
      have h2 : 0 < 2 ^ n := Nat.two_pow_pos n
      rw [BitVec.toNat_sub, BitVec.toNat_shiftLeft]
      simp only [BitVec.toNat_ofNat, Nat.shiftLeft_eq]
      rw [Nat.mod_eq_of_lt (a := 1) (by omega), Nat.one_mul, Nat.mod_eq_of_lt h1]
      omega
    rw [BitVec.getLsbD, e, Nat.testBit_two_pow_sub_one]
    by_cases k : i < n
    · have : i < 64 := by omega
      simp [k, this]
    · simp [k]
  · have e : (1#64 <<< n : W) = 0#64 := by
      apply eq_bits
      intro i
      rw [BitVec.getLsbD_shiftLeft]
      by_cases k : i < 64
      · have : i < n := by omega
        simp [this]
      · simp [k]
    have e2 : (0#64 - 1#64 : W) = BitVec.allOnes 64 := by decide
    rw [e, e2, BitVec.getLsbD_allOnes]
    by_cases k : i < 64
    · have : i < n := by omega
      simp [k, this]
    · simp [k]
def low (t : T) (n : Nat) : T := ⟨t.v &&& lows n, t.m &&& lows n⟩
theorem low_has {a : T} {p : W} (n : Nat) (hp : Has a p) : Has (low a n) (p &&& lows n) := by
  rw [has_bits] at *
  intro i
  simp only [low, BitVec.getLsbD_and, ← hp]
  cases (lows n).getLsbD i <;> simp
def meets (a b : T) : Prop := andn (a.v ^^^ b.v) (a.m ||| b.m) = 0
instance (a b : T) : Decidable (meets a b) := by unfold meets; infer_instance
def meet (a b : T) : T := mk (a.v ||| b.v) (a.m &&& b.m)
theorem meet_has {a b : T} {p : W} (ha : May a) (hb : May b) (hp : Has a p) : Has b p ↔ meets a b ∧ Has (meet a b) p := by
  unfold meets
  rw [zero_bits, has_bits, has_bits]
  rw [has_bits] at hp
  rw [may_bits] at ha hb
  constructor
  · intro h
    refine ⟨fun i => ?_, fun i => ?_⟩
    · simp only [andnot_bit, BitVec.getLsbD_or, BitVec.getLsbD_xor, ← h i, ← hp i]
      cases p.getLsbD i <;> cases a.m.getLsbD i <;> cases b.m.getLsbD i <;> rfl
    · simp only [meet, mk, andnot_bit, BitVec.getLsbD_or, BitVec.getLsbD_and, ← h i, ← hp i]
      cases p.getLsbD i <;> cases a.m.getLsbD i <;> cases b.m.getLsbD i <;> rfl
  · rintro ⟨h, k⟩ i
    have h1 := h i
    have k1 := k i
    have b1 := hb i
    simp only [meet, mk, andnot_bit, BitVec.getLsbD_or, BitVec.getLsbD_and, BitVec.getLsbD_xor, ← hp i] at h1 k1
    revert h1 k1 b1
    cases p.getLsbD i <;> cases a.m.getLsbD i <;> cases b.m.getLsbD i <;> cases b.v.getLsbD i <;> simp
theorem mul_bit_split (y : W) {i : Nat} (hi : i < 64) : (y >>> i) <<< i = (if y.getLsbD i then (1#64 <<< i) else 0#64) + (y >>> (i + 1)) <<< (i + 1) := by
  rw [add_or]
  · apply BitVec.eq_of_getLsbD_eq
    intro j hj
    simp only [BitVec.getLsbD_or, BitVec.getLsbD_shiftLeft, BitVec.getLsbD_ushiftRight, hj, decide_true, Bool.true_and]
    by_cases h1 : j < i
    · have h2 : j < i + 1 := by omega
      cases hy : y.getLsbD i <;> simp [h1, h2, BitVec.getLsbD_shiftLeft]
    · by_cases h2 : j = i
      · subst h2
        cases hy : y.getLsbD j <;> (rw [BitVec.getLsbD_eq_getElem hj] at hy; simp [BitVec.getLsbD_shiftLeft, hy, hj])
      · have h3 : ¬ j < i + 1 := by omega
        have h4 : i + (j - i) = j := by omega
        have h5 : i + 1 + (j - (i + 1)) = j := by omega
        have h6 : ¬ j - i = 0 := by omega
        cases hy : y.getLsbD i <;> simp [h1, h3, h4, h5, h6, BitVec.getLsbD_shiftLeft]
  · rw [zero_bits]
    intro j
    rw [BitVec.getLsbD_and]
    by_cases h2 : j = i
    · subst h2
      simp [BitVec.getLsbD_shiftLeft]
    · have : ((if y.getLsbD i then (1#64 <<< i) else 0#64) : W).getLsbD j = false := by
        have h6 : j < i ∨ ¬ j - i = 0 := by omega
        cases y.getLsbD i
        · simp
        · simp only [if_true, BitVec.getLsbD_shiftLeft]
          rcases h6 with h6 | h6 <;> simp [h6]
      rw [this]; rfl
def psum (x y : W) : Nat → Nat → W
  | 0, _ => 0
  | d + 1, i => (if y.getLsbD i then x <<< i else 0#64) + psum x y d (i + 1)
theorem psum_eq (x y : W) : ∀ (d i : Nat), i + d = 64 → psum x y d i = x * ((y >>> i) <<< i)
  | 0, i, h => by
    have : y >>> i = 0 := by apply eq_bits; intro j; rw [BitVec.getLsbD_ushiftRight, BitVec.getLsbD_of_ge _ _ (by omega)]; simp
    rw [this]; simp [psum]
  | d + 1, i, h => by
    rw [mul_bit_split y (show i < 64 by omega), psum, psum_eq x y d (i + 1) (by omega), BitVec.mul_add]
    congr 1
    cases y.getLsbD i
    · simp
    · simp only [if_true]
      rw [show (1#64 <<< i : W) = BitVec.twoPow 64 i from rfl, BitVec.mul_twoPow_eq_shiftLeft]
theorem psum_all (x y : W) : psum x y 64 0 = x * y := by rw [psum_eq x y 64 0 (by omega)]; simp
def stepR (a b : T) (i : Nat) (t : T) : T := if a.m.getLsbD i then add t ⟨0#64, (b.v ||| b.m) <<< i⟩ else if a.v.getLsbD i then add t ⟨0#64, b.m <<< i⟩ else t
def mulR (a b : T) : Nat → Nat → T → T
  | 0, _, t => t
  | d + 1, i, t => mulR a b d (i + 1) (stepR a b i t)
def mul (a b : T) : T := add (mulR a b 64 0 ⟨0#64, 0#64⟩) ⟨a.v * b.v, 0#64⟩
theorem may_zero (m : W) : May ⟨0#64, m⟩ := by rw [may_bits]; intro i; simp
theorem may_const (v : W) : May ⟨v, 0#64⟩ := by rw [may_bits]; intro i; simp
theorem has_zero {m x : W} : Has ⟨0#64, m⟩ x ↔ Le x m := by
  rw [has_bits]
  constructor
  · intro h i hi
    have := h i
    rw [hi] at this
    cases hm : m.getLsbD i
    · rw [hm] at this; simp at this
    · rfl
  · intro h i
    cases hx : x.getLsbD i
    · simp
    · rw [h i hx]; simp
theorem has_const (v : W) : Has ⟨v, 0#64⟩ v := by rw [has_bits]; intro i; simp
theorem may_stepR (a b : T) (i : Nat) {t : T} (ht : May t) : May (stepR a b i t) := by
  unfold stepR
  split
  · exact may_mk _ _
  · split
    · exact may_mk _ _
    · exact ht
theorem may_mulR (a b : T) : ∀ (d i : Nat) {t : T}, May t → May (mulR a b d i t)
  | 0, _, _, ht => ht
  | d + 1, i, _, ht => may_mulR a b d (i + 1) (may_stepR a b i ht)
theorem Le.shl {x y : W} (h : Le x y) (n : Nat) : Le (x <<< n) (y <<< n) := by
  intro i hi
  rw [BitVec.getLsbD_shiftLeft] at hi ⊢
  simp only [Bool.and_eq_true] at hi ⊢
  exact ⟨hi.1, h _ hi.2⟩
theorem rest_le {b : T} {q : W} (hb : May b) (hq : Has b q) : q - b.v = q &&& b.m := by
  have e : q = b.v + (q &&& b.m) := by
    rw [has_bits] at hq
    rw [add_or]
    · apply eq_bits
      intro i
      rw [BitVec.getLsbD_or, BitVec.getLsbD_and, ← hq i]
      cases q.getLsbD i <;> cases b.m.getLsbD i <;> rfl
    · rw [zero_bits]
      intro i
      rw [BitVec.getLsbD_and, BitVec.getLsbD_and, ← hq i]
      cases q.getLsbD i <;> cases b.m.getLsbD i <;> rfl
  have f : b.v + (q &&& b.m) - b.v = q &&& b.m := by rw [BitVec.add_comm, BitVec.add_sub_cancel]
  rw [← e] at f
  exact f
theorem shl_sub (x y : W) (n : Nat) : x <<< n - y <<< n = (x - y) <<< n := by
  rw [← BitVec.mul_twoPow_eq_shiftLeft, ← BitVec.mul_twoPow_eq_shiftLeft, ← BitVec.mul_twoPow_eq_shiftLeft]
  grind
theorem stepR_has {a b t : T} {p q x : W} (hb : May b) (ha : May a) (hp : Has a p) (hq : Has b q) (i : Nat) (ht : May t) (hx : Has t x) :
    Has (stepR a b i t) (x + ((if p.getLsbD i then q <<< i else 0#64) - (if a.v.getLsbD i then b.v <<< i else 0#64))) := by
  have hp' := has_bits.1 hp i
  have ha' := may_bits.1 ha i
  unfold stepR
  cases hm : a.m.getLsbD i
  · rw [hm] at hp' ha'
    simp only [Bool.not_false, Bool.and_true] at hp'
    cases hv : a.v.getLsbD i
    · rw [hv] at hp'
      rw [hp']
      simpa using hx
    · rw [hv] at hp'
      rw [hp']
      simp only [if_true, Bool.false_eq_true, if_false]
      refine add_has ht (may_zero _) hx (has_zero.2 ?_)
      rw [shl_sub, rest_le hb hq]
      exact Le.shl (fun j hj => by rw [BitVec.getLsbD_and] at hj; simp only [Bool.and_eq_true] at hj; exact hj.2) i
  · rw [hm] at ha'
    simp only [Bool.and_true] at ha'
    rw [ha']
    simp only [if_true, Bool.false_eq_true, if_false]
    refine add_has ht (may_zero _) hx (has_zero.2 ?_)
    rw [BitVec.sub_zero]
    cases p.getLsbD i
    · intro j hj; simp at hj
    · simp only [if_true]
      exact Le.shl hq.btw.hi i
theorem shuffle (x A B C D : W) : x + (A - B) + (C - D) = x + ((A + C) - (B + D)) := by
  grind
theorem mulR_has {a b : T} {p q : W} (ha : May a) (hb : May b) (hp : Has a p) (hq : Has b q) : ∀ (d i : Nat) {t : T} {x : W}, May t → Has t x → Has (mulR a b d i t) (x + (psum q p d i - psum b.v a.v d i))
  | 0, _, _, x, _, hx => by
    simpa [mulR, psum] using hx
  | d + 1, i, t, x, ht, hx => by
    have := mulR_has ha hb hp hq d (i + 1) (may_stepR a b i ht) (stepR_has hb ha hp hq i ht hx)
    rw [shuffle] at this
    exact this
theorem mul_has {a b : T} {p q : W} (ha : May a) (hb : May b) (hp : Has a p) (hq : Has b q) : Has (mul a b) (p * q) := by
  have h := mulR_has ha hb hp hq 64 0 (t := ⟨0#64, 0#64⟩) (x := 0#64) (may_zero _) (has_zero.2 (Le.refl _))
  have k := add_has (may_mulR a b 64 0 (may_zero _)) (may_const (a.v * b.v)) h (has_const (a.v * b.v))
  rw [psum_all, psum_all] at k
  have e : (0#64 : W) + (q * p - b.v * a.v) + a.v * b.v = p * q := by
    rw [BitVec.mul_comm q p, BitVec.mul_comm b.v a.v]
    generalize p * q = X
    generalize a.v * b.v = Y
    grind
  rw [e] at k
  exact k
/-! the program's loop -/
def z : T := ⟨0#64, 0#64⟩
def stepL (a b t : T) : T := if a.v.getLsbD 0 then add t ⟨0#64, b.m⟩ else if a.m.getLsbD 0 then add t ⟨0#64, b.v ||| b.m⟩ else t
def mulL : Nat → T → T → T → Option T
  | 0, _, _, _ => none
  | k + 1, a, b, t => if a = z then some t else if shl b 1 = z then some (stepL a b t) else mulL k (shr a 1) (shl b 1) (stepL a b t)
theorem shr_shr (a : T) (i j : Nat) : shr (shr a i) j = shr a (i + j) := by
  simp only [shr, ← BitVec.shiftRight_add]
theorem shl_shl (a : T) (i j : Nat) : shl (shl a i) j = shl a (i + j) := by
  simp only [shl, ← BitVec.shiftLeft_add]
theorem stepL_R {a : T} (ha : May a) (b : T) (i : Nat) (t : T) : stepL (shr a i) (shl b i) t = stepR a b i t := by
  have h := may_bits.1 ha i
  unfold stepL stepR
  simp only [shr, shl, BitVec.getLsbD_ushiftRight, Nat.add_zero, ← BitVec.shiftLeft_or_distrib]
  revert h
  cases a.v.getLsbD i <;> cases a.m.getLsbD i <;> simp
theorem add_zero {t : T} (ht : May t) : add t ⟨0#64, 0#64⟩ = t := by
  have hb := may_bits.1 ht
  unfold add addU
  simp only [BitVec.add_zero, BitVec.or_zero]
  have e : t.m + t.v = t.m ||| t.v := add_or (by rw [BitVec.and_comm]; exact ht)
  have e1 : (t.m ||| t.v) ^^^ t.v ||| t.m = t.m := by
    apply eq_bits; intro i
    have := hb i
    simp only [BitVec.getLsbD_or, BitVec.getLsbD_xor]
    revert this
    cases t.m.getLsbD i <;> cases t.v.getLsbD i <;> simp
  rw [e, e1]
  have e2 : andn t.v t.m = t.v := by
    apply eq_bits; intro i
    have := hb i
    rw [andnot_bit]
    revert this
    cases t.m.getLsbD i <;> cases t.v.getLsbD i <;> simp
  cases t
  simp only [mk, T.mk.injEq, and_true]
  exact e2
theorem mulR_done {a b : T} : ∀ (d i : Nat) {t : T}, (∀ j, i ≤ j → a.v.getLsbD j = false ∧ a.m.getLsbD j = false) → mulR a b d i t = t
  | 0, _, _, _ => rfl
  | d + 1, i, t, h => by
    rw [mulR, mulR_done d (i + 1) (fun j hj => h j (by omega))]
    obtain ⟨h1, h2⟩ := h i (Nat.le_refl i)
    simp [stepR, h1, h2]
theorem mulR_done_b {a b : T} : ∀ (d i : Nat) {t : T}, May t → (∀ j, i ≤ j → shl b j = z) → mulR a b d i t = t
  | 0, _, _, _, _ => rfl
  | d + 1, i, t, ht, h => by
    have h0 := h i (Nat.le_refl i)
    have e1 : b.v <<< i = 0#64 := congrArg T.v h0
    have e2 : b.m <<< i = 0#64 := congrArg T.m h0
    have e : stepR a b i t = t := by
      unfold stepR
      rw [BitVec.shiftLeft_or_distrib, e1, e2, BitVec.or_zero, add_zero ht]; simp
    rw [mulR, e, mulR_done_b d (i + 1) ht (fun j hj => h j (by omega))]
theorem mulL_R {a : T} (ha : May a) (b : T) : ∀ (d i k : Nat) {t : T}, i + d = 64 → d < k → May t → mulL k (shr a i) (shl b i) t = some (mulR a b d i t) := by
  have hz : ∀ i, shr a i = z → ∀ j, i ≤ j → a.v.getLsbD j = false ∧ a.m.getLsbD j = false := by
    intro i h j hj
    have h1 : a.v >>> i = 0 := congrArg T.v h
    have h2 : a.m >>> i = 0 := congrArg T.m h
    have k1 := zero_bits.1 h1 (j - i)
    have k2 := zero_bits.1 h2 (j - i)
    rw [BitVec.getLsbD_ushiftRight, show i + (j - i) = j by omega] at k1 k2
    exact ⟨k1, k2⟩
  intro d
  induction d with
  | zero =>
    intro i k t hi hk ht
    obtain ⟨k, rfl⟩ : ∃ m, k = m + 1 := ⟨k - 1, by omega⟩
    have : shr a i = z := by
      simp only [shr, z, T.mk.injEq]
      constructor <;> (refine zero_bits.2 ?_; intro j; rw [BitVec.getLsbD_ushiftRight, BitVec.getLsbD_of_ge _ _ (by omega)])
    rw [mulL, if_pos this]; rfl
  | succ d ih =>
    intro i k t hi hk ht
    obtain ⟨k, rfl⟩ : ∃ m, k = m + 1 := ⟨k - 1, by omega⟩
    rw [mulL]
    by_cases h : shr a i = z
    · rw [if_pos h, mulR_done _ _ (hz i h)]
    · rw [if_neg h, stepL_R ha, shr_shr, shl_shl]
      by_cases h' : shl b (i + 1) = z
      · rw [if_pos h', mulR, mulR_done_b _ _ (may_stepR a b i ht)]
        intro j hj
        have : shl (shl b (i + 1)) (j - (i + 1)) = shl b j := by rw [shl_shl]; congr 1; omega
        rw [← this, h']
        simp [shl, z]
      · rw [if_neg h', mulR]
        exact ih (i + 1) k (by omega) (by omega) (may_stepR a b i ht)
end Go.Proofs.Ytnljfoaacngamaa.TM
