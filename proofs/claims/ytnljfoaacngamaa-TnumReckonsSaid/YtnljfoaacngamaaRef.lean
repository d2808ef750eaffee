/- Plain mathematics: a tnum that is built bit by bit, as the document's answer does it. No program here. -/
import Derived.Test.YtnljfoaacngamaaMath
import Derived.Test.YtnljfoaacngamaaRange
set_option linter.unusedVariables false
set_option linter.unusedSimpArgs false
namespace Go.Proofs.Ytnljfoaacngamaa.TM
def bN (m v : Bool) : Int := if m then 2 else if v then 1 else 0
def bitN (t : T) (i : Nat) : Int := bN (t.m.getLsbD i) (t.v.getLsbD i)
theorem bitN_cases (t : T) (i : Nat) : bitN t i = 0 ∨ bitN t i = 1 ∨ bitN t i = 2 := by
  unfold bitN
  cases t.m.getLsbD i <;> cases t.v.getLsbD i <;> simp [bN]
def putT (t : T) (i : Nat) (b : Int) : T := if b = 2 then ⟨t.v, t.m ||| (1#64 <<< i)⟩ else if b = 1 then ⟨t.v ||| (1#64 <<< i), t.m⟩ else t
theorem one_bit {i : Nat} (j : Nat) (hi : i < 64) : (1#64 <<< i).getLsbD j = decide (j = i) := by
  rw [BitVec.getLsbD_shiftLeft]
  by_cases h : j = i
  · subst h; simp [hi]
  · by_cases h2 : j < i
    · simp [h, h2]
    · have : ¬ j - i = 0 := by omega
      simp [h, this]
def build (g : Nat → Int) : Nat → T
  | 0 => ⟨0#64, 0#64⟩
  | n + 1 => putT (build g n) n (g n)
theorem build_bits (g : Nat → Int) : ∀ (n : Nat), n ≤ 64 → ∀ j, (build g n).v.getLsbD j = (decide (j < n) && decide (g j = 1)) ∧ (build g n).m.getLsbD j = (decide (j < n) && decide (g j = 2))
  | 0, _, j => by simp [build]
  | n + 1, hn, j => by
    obtain ⟨h1, h2⟩ := build_bits g n (by omega) j
    have e := one_bit (i := n) j (by omega)
    have hlt : ∀ b : Bool, (decide (j < n + 1) && b) = ((decide (j < n) && b) || (decide (j = n) && b)) := by
      intro b
      by_cases h3 : j < n
      · have h4 : j < n + 1 := by omega
        have h5 : ¬ j = n := by omega
        simp [h3, h4, h5]
      · by_cases h5 : j = n
        · have h4 : j < n + 1 := by omega
          simp [h3, h4, h5]
        · have h4 : ¬ j < n + 1 := by omega
          simp [h3, h4, h5]
    rw [hlt, hlt]
    unfold build putT
    by_cases g2 : g n = 2
    · rw [if_pos g2]
      constructor
      · show (build g n).v.getLsbD j = _
        rw [h1]
        by_cases hj : j = n
        · subst hj; simp [g2]
        · simp [hj]
      · show ((build g n).m ||| (1#64 <<< n)).getLsbD j = _
        rw [BitVec.getLsbD_or, h2, e]
        by_cases hj : j = n
        · subst hj; simp [g2]
        · simp [hj]
    · rw [if_neg g2]
      by_cases g1 : g n = 1
      · rw [if_pos g1]
        constructor
        · show ((build g n).v ||| (1#64 <<< n)).getLsbD j = _
          rw [BitVec.getLsbD_or, h1, e]
          by_cases hj : j = n
          · subst hj; simp [g1]
          · simp [hj]
        · show (build g n).m.getLsbD j = _
          rw [h2]
          by_cases hj : j = n
          · subst hj; simp [g2]
          · simp [hj]
      · rw [if_neg g1, h1, h2]
        by_cases hj : j = n
        · subst hj; simp [g1, g2]
        · simp [hj]
theorem T.ext' {a b : T} (h1 : a.v = b.v) (h2 : a.m = b.m) : a = b := by
  cases a; cases b; simp_all
theorem build_eq {g : Nat → Int} {t : T} (h0 : ∀ j, j < 64 → (g j = 1 ↔ t.v.getLsbD j = true) ∧ (g j = 2 ↔ t.m.getLsbD j = true)) : build g 64 = t := by
  have h : ∀ j, j < 64 → decide (g j = 1) = t.v.getLsbD j ∧ decide (g j = 2) = t.m.getLsbD j := fun j hj => ⟨by rw [Bool.eq_iff_iff, decide_eq_true_eq]; exact (h0 j hj).1, by rw [Bool.eq_iff_iff, decide_eq_true_eq]; exact (h0 j hj).2⟩
  apply T.ext'
  · apply BitVec.eq_of_getLsbD_eq
    intro j hj
    rw [(build_bits g 64 (by omega) j).1, (h j hj).1]
    simp [hj]
  · apply BitVec.eq_of_getLsbD_eq
    intro j hj
    rw [(build_bits g 64 (by omega) j).2, (h j hj).2]
    simp [hj]
/-- .. from the highest bit on. -/
def buildD (g : Nat → Int) : Nat → T
  | 0 => ⟨0#64, 0#64⟩
  | d + 1 => putT (buildD g d) (63 - d) (g (63 - d))
theorem buildD_bits (g : Nat → Int) : ∀ (d : Nat), d ≤ 64 → ∀ j, j < 64 → (buildD g d).v.getLsbD j = (decide (64 - d ≤ j) && decide (g j = 1)) ∧ (buildD g d).m.getLsbD j = (decide (64 - d ≤ j) && decide (g j = 2))
  | 0, _, j, hj => by
    have : ¬ 64 ≤ j := by omega
    simp [buildD, this]
  | n + 1, hn, j, hj64 => by
    obtain ⟨h1, h2⟩ := buildD_bits g n (by omega) j hj64
    have e := one_bit (i := 63 - n) j (by omega)
    have hlt : ∀ b : Bool, (decide (64 - (n + 1) ≤ j) && b) = ((decide (64 - n ≤ j) && b) || (decide (j = 63 - n) && b)) := by
      intro b
      by_cases h3 : 64 - n ≤ j
      · have h4 : 64 - (n + 1) ≤ j := by omega
        have h5 : ¬ j = 63 - n := by omega
        simp only [h3, h4, h5, decide_true, decide_false, Bool.true_and, Bool.false_and, Bool.or_false]
      · by_cases h5 : j = 63 - n
        · have h4 : 64 - (n + 1) ≤ j := by omega
          simp only [h3, h4, h5, decide_true, decide_false, Bool.true_and, Bool.false_and, Bool.false_or]
          simp [← h5, h3]
        · have h4 : ¬ 64 - (n + 1) ≤ j := by omega
          simp only [h3, h4, h5, decide_false, Bool.false_and, Bool.or_false]
    have hno : ¬ 64 - n ≤ 63 - n := by omega
    rw [hlt, hlt]
    unfold buildD putT
    by_cases g2 : g (63 - n) = 2
    · rw [if_pos g2]
      constructor
      · show (buildD g n).v.getLsbD j = _
        rw [h1]
        by_cases hj : j = 63 - n
        · subst hj; simp [g2]
        · simp [hj]
      · show ((buildD g n).m ||| (1#64 <<< (63 - n))).getLsbD j = _
        rw [BitVec.getLsbD_or, h2, e]
        by_cases hj : j = 63 - n
        · subst hj; simp [g2]
        · simp [hj]
    · rw [if_neg g2]
      by_cases g1 : g (63 - n) = 1
      · rw [if_pos g1]
        constructor
        · show ((buildD g n).v ||| (1#64 <<< (63 - n))).getLsbD j = _
          rw [BitVec.getLsbD_or, h1, e]
          by_cases hj : j = 63 - n
          · subst hj; simp [g1]
          · simp [hj]
        · show (buildD g n).m.getLsbD j = _
          rw [h2]
          by_cases hj : j = 63 - n
          · subst hj; simp [g2]
          · simp [hj]
      · rw [if_neg g1, h1, h2]
        by_cases hj : j = 63 - n
        · subst hj; simp [g1, g2]
        · simp [hj]
theorem buildD_eq {g : Nat → Int} {t : T} (h0 : ∀ j, j < 64 → (g j = 1 ↔ t.v.getLsbD j = true) ∧ (g j = 2 ↔ t.m.getLsbD j = true)) : buildD g 64 = t := by
  have h : ∀ j, j < 64 → decide (g j = 1) = t.v.getLsbD j ∧ decide (g j = 2) = t.m.getLsbD j := fun j hj => ⟨by rw [Bool.eq_iff_iff, decide_eq_true_eq]; exact (h0 j hj).1, by rw [Bool.eq_iff_iff, decide_eq_true_eq]; exact (h0 j hj).2⟩
  apply T.ext'
  · apply BitVec.eq_of_getLsbD_eq
    intro j hj
    rw [(buildD_bits g 64 (by omega) j hj).1, (h j hj).1]
    simp
  · apply BitVec.eq_of_getLsbD_eq
    intro j hj
    rw [(buildD_bits g 64 (by omega) j hj).2, (h j hj).2]
    simp
/-! what each bit is -/
def gJoin (x y : Int) : Int := if x = y then x else 2
def gAnd (x y : Int) : Int := if x = 0 ∨ y = 0 then 0 else if x = 1 ∧ y = 1 then 1 else 2
def gOr (x y : Int) : Int := if x = 1 ∨ y = 1 then 1 else if x = 0 ∧ y = 0 then 0 else 2
def gXor (x y : Int) : Int := if x = 2 ∨ y = 2 then 2 else if x = y then 0 else 1
theorem join_build {a b : T} (ha : May a) (hb : May b) : build (fun j => gJoin (bitN a j) (bitN b j)) 64 = join a b := by
  refine build_eq fun j hj => ?_
  have h1 := may_bits.1 ha j
  have h2 := may_bits.1 hb j
  simp only [join, mk, andnot_bit, BitVec.getLsbD_or, BitVec.getLsbD_xor, bitN]
  generalize a.v.getLsbD j = p at *
  generalize a.m.getLsbD j = q at *
  generalize b.v.getLsbD j = r at *
  generalize b.m.getLsbD j = s at *
  revert h1 h2
  revert p q r s
  decide
theorem and_build {a b : T} (ha : May a) (hb : May b) : build (fun j => gAnd (bitN a j) (bitN b j)) 64 = band a b := by
  refine build_eq fun j hj => ?_
  have h1 := may_bits.1 ha j
  have h2 := may_bits.1 hb j
  simp only [band, mk, andnot_bit, BitVec.getLsbD_or, BitVec.getLsbD_and, BitVec.getLsbD_xor, bitN]
  generalize a.v.getLsbD j = p at *
  generalize a.m.getLsbD j = q at *
  generalize b.v.getLsbD j = r at *
  generalize b.m.getLsbD j = s at *
  revert h1 h2
  revert p q r s
  decide
theorem or_build {a b : T} (ha : May a) (hb : May b) : build (fun j => gOr (bitN a j) (bitN b j)) 64 = bor a b := by
  refine build_eq fun j hj => ?_
  have h1 := may_bits.1 ha j
  have h2 := may_bits.1 hb j
  simp only [bor, mk, andnot_bit, BitVec.getLsbD_or, BitVec.getLsbD_and, BitVec.getLsbD_xor, bitN]
  generalize a.v.getLsbD j = p at *
  generalize a.m.getLsbD j = q at *
  generalize b.v.getLsbD j = r at *
  generalize b.m.getLsbD j = s at *
  revert h1 h2
  revert p q r s
  decide
theorem xor_build {a b : T} (ha : May a) (hb : May b) : build (fun j => gXor (bitN a j) (bitN b j)) 64 = bxor a b := by
  refine build_eq fun j hj => ?_
  have h1 := may_bits.1 ha j
  have h2 := may_bits.1 hb j
  simp only [bxor, mk, andnot_bit, BitVec.getLsbD_or, BitVec.getLsbD_and, BitVec.getLsbD_xor, bitN]
  generalize a.v.getLsbD j = p at *
  generalize a.m.getLsbD j = q at *
  generalize b.v.getLsbD j = r at *
  generalize b.m.getLsbD j = s at *
  revert h1 h2
  revert p q r s
  decide
def gMeet (x y : Int) : Int := if x = 2 then y else x
/-- do two bits meet? -/
def okMeet (x y : Int) : Prop := x = 2 ∨ y = 2 ∨ x = y
theorem meets_iff {a b : T} (ha : May a) (hb : May b) : meets a b ↔ ∀ j, j < 64 → okMeet (bitN a j) (bitN b j) := by
  unfold meets
  rw [zero_bits]
  have key : ∀ j, (andn (a.v ^^^ b.v) (a.m ||| b.m)).getLsbD j = false ↔ okMeet (bitN a j) (bitN b j) := by
    intro j
    have h1 := may_bits.1 ha j
    have h2 := may_bits.1 hb j
    simp only [andnot_bit, BitVec.getLsbD_or, BitVec.getLsbD_xor, bitN]
    generalize a.v.getLsbD j = p at *
    generalize a.m.getLsbD j = q at *
    generalize b.v.getLsbD j = r at *
    generalize b.m.getLsbD j = s at *
    revert h1 h2
    revert p q r s
    unfold okMeet
    decide
  constructor
  · intro h j _
    exact (key j).1 (h j)
  · intro h j
    by_cases hj : j < 64
    · exact (key j).2 (h j hj)
    · exact BitVec.getLsbD_of_ge _ _ (by omega)
theorem meet_build {a b : T} (ha : May a) (hb : May b) (h : meets a b) : build (fun j => gMeet (bitN a j) (bitN b j)) 64 = meet a b := by
  refine build_eq fun j hj => ?_
  have h1 := may_bits.1 ha j
  have h2 := may_bits.1 hb j
  have h3 := (meets_iff ha hb).1 h j hj
  simp only [meet, mk, andnot_bit, BitVec.getLsbD_or, BitVec.getLsbD_and, BitVec.getLsbD_xor, bitN] at h3 ⊢
  generalize a.v.getLsbD j = p at *
  generalize a.m.getLsbD j = q at *
  generalize b.v.getLsbD j = r at *
  generalize b.m.getLsbD j = s at *
  revert h1 h2 h3
  revert p q r s
  unfold okMeet
  decide
theorem low_build {a : T} (ha : May a) (n : Nat) : build (fun j => if j < n then bitN a j else 0) 64 = low a n := by
  refine build_eq fun j hj => ?_
  have h1 := may_bits.1 ha j
  simp only [low, BitVec.getLsbD_and, lows_bit, bitN]
  by_cases h : j < n
  · simp only [h, hj, if_true, decide_true, Bool.and_true, Bool.true_and]
    generalize a.v.getLsbD j = p at *
    generalize a.m.getLsbD j = q at *
    revert h1
    revert p q
    decide
  · simp [h]
def gShl (a : T) (n j : Nat) : Int := if n ≤ j then bitN a (j - n) else 0
theorem shl_build {a : T} (ha : May a) (n : Nat) : build (gShl a n) 64 = shl a n := by
  refine build_eq fun j hj => ?_
  have h1 := may_bits.1 ha (j - n)
  simp only [shl, BitVec.getLsbD_shiftLeft, bitN, gShl]
  by_cases h : n ≤ j
  · have h' : ¬ j < n := by omega
    simp only [h, h', hj, if_true, decide_true, decide_false, Bool.not_false, Bool.and_true, Bool.true_and]
    generalize a.v.getLsbD (j - n) = p at *
    generalize a.m.getLsbD (j - n) = q at *
    revert h1
    revert p q
    decide
  · have h' : j < n := by omega
    simp [h, h']
def gShr (a : T) (n j : Nat) : Int := if n + j < 64 then bitN a (n + j) else 0
theorem shr_build {a : T} (ha : May a) (n : Nat) : build (gShr a n) 64 = shr a n := by
  refine build_eq fun j hj => ?_
  have h1 := may_bits.1 ha (n + j)
  simp only [shr, BitVec.getLsbD_ushiftRight, bitN, gShr]
  by_cases h : n + j < 64
  · simp only [h, if_true]
    generalize a.v.getLsbD (n + j) = p at *
    generalize a.m.getLsbD (n + j) = q at *
    revert h1
    revert p q
    decide
  · have e : ∀ z : W, z.getLsbD (n + j) = false := fun z => BitVec.getLsbD_of_ge _ _ (by omega)
    simp [h, e]
def gSar (a : T) (n j : Nat) : Int := bitN a (min (n + j) 63)
theorem sar_build {a : T} (ha : May a) (n : Nat) : build (gSar a n) 64 = sar a n := by
  refine build_eq fun j hj => ?_
  have h1 := may_bits.1 ha (min (n + j) 63)
  simp only [sar, sar_bit, bitN, gSar, hj, decide_true, Bool.true_and]
  generalize a.v.getLsbD (min (n + j) 63) = p at *
  generalize a.m.getLsbD (min (n + j) 63) = q at *
  revert h1
  revert p q
  decide
theorem has_iff {t : T} (ht : May t) (x : W) : Has t x ↔ ∀ j, j < 64 → bitN t j = 2 ∨ bitN t j = (if x.getLsbD j then 1 else 0) := by
  rw [has_bits]
  have key : ∀ j, (x.getLsbD j && !t.m.getLsbD j) = t.v.getLsbD j ↔ bitN t j = 2 ∨ bitN t j = (if x.getLsbD j then 1 else 0) := by
    intro j
    have h1 := may_bits.1 ht j
    unfold bitN
    generalize x.getLsbD j = r at *
    generalize t.v.getLsbD j = p at *
    generalize t.m.getLsbD j = q at *
    revert h1
    revert p q r
    decide
  constructor
  · intro h j _
    exact (key j).1 (h j)
  · intro h j
    by_cases hj : j < 64
    · exact (key j).2 (h j hj)
    · have e : ∀ z : W, z.getLsbD j = false := fun z => BitVec.getLsbD_of_ge _ _ (by omega)
      simp only [e]; rfl
theorem in_iff {a b : T} (ha : May a) (hb : May b) : In a b ↔ ∀ j, j < 64 → bitN b j = 2 ∨ bitN a j = bitN b j := by
  rw [in_bits]
  have key : ∀ j, ((a.m.getLsbD j && !b.m.getLsbD j) = false ∧ (a.v.getLsbD j && !b.m.getLsbD j) = b.v.getLsbD j) ↔ bitN b j = 2 ∨ bitN a j = bitN b j := by
    intro j
    have h1 := may_bits.1 ha j
    have h2 := may_bits.1 hb j
    unfold bitN
    generalize a.v.getLsbD j = p at *
    generalize a.m.getLsbD j = q at *
    generalize b.v.getLsbD j = r at *
    generalize b.m.getLsbD j = s at *
    revert h1 h2
    revert p q r s
    decide
  constructor
  · intro h j _
    exact (key j).1 (h j)
  · intro h j
    by_cases hj : j < 64
    · exact (key j).2 (h j hj)
    · have e : ∀ z : W, z.getLsbD j = false := fun z => BitVec.getLsbD_of_ge _ _ (by omega)
      simp only [e]; decide
open Classical in
noncomputable def gRange (lo hi : W) (j : Nat) : Int := if alike lo hi j then (if lo.getLsbD j then 1 else 0) else 2
theorem range_build {lo hi : W} {n : Nat} (h1 : (lo ^^^ hi).toNat < 2 ^ n) (h2 : ∀ j, (lo ^^^ hi).toNat < 2 ^ j → n ≤ j) : buildD (gRange lo hi) 64 = range lo hi n := by
  refine buildD_eq fun j hj => ?_
  have e : alike lo hi j ↔ ¬ j < n := by
    rw [alike_iff]
    constructor
    · intro h; have := h2 j h; omega
    · intro h; exact Nat.lt_of_lt_of_le h1 (Nat.pow_le_pow_right (by omega) (by omega))
  simp only [range, mk, andnot_bit, lows_bit, gRange]
  by_cases hjn : j < n
  · have : ¬ alike lo hi j := fun h => (e.1 h) hjn
    simp [this, hjn, hj]
  · have : alike lo hi j := e.2 hjn
    simp only [this, hjn, if_true, decide_false, Bool.false_and, Bool.not_false, Bool.and_true]
    generalize lo.getLsbD j = p
    revert p
    decide
end Go.Proofs.Ytnljfoaacngamaa.TM
