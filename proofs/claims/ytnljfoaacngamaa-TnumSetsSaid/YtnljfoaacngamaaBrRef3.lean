/- What the rest of the document's answer for tnums is over words of 64 bits. -/
import Derived.Test.YtnljfoaacngamaaBrRef
import Derived.Test.YtnljfoaacngamaaPDx3
import Derived.Test.YtnljfoaacngamaaPDx4r
import Derived.Test.YtnljfoaacngamaaPDx5r
import Derived.Test.YtnljfoaacngamaaPDx7r
set_option linter.unusedVariables false
set_option linter.unusedSimpArgs false
namespace Go.Proofs.Ytnljfoaacngamaa.BR
open Go.Proofs.Ytnljfoaacngamaa.TM (W T I I_and I_or I_xor I_andNot I_add I_sub I_mul I_shl I_shr I_sar I_beq I_beq0 I_eq0 I_inj I_lo I_hi May Has In bitN putT build bitN_cases)
open Go.Proofs.Ytnljfoaacngamaa.PD Go.RowKit Go.Proofs.YtnljfoaacngamaaW.PrintWords
/-! which numbers -/
theorem refHas_loop (t : T) (x : W) : ∀ (d i k : Nat), i + d = 64 → d + 1 ≤ k → ∃ r, wardenref03_Has.l0 k (I x) (i : Int) (I t.v) (I t.m) = some r ∧
    (r = true ↔ ∀ j, i ≤ j → j < 64 → bitN t j = 2 ∨ bitN t j = (if x.getLsbD j then 1 else 0))
  | 0, i, k, hi, hk => by
    obtain ⟨k, rfl⟩ : ∃ m, k = m + 1 := ⟨k - 1, by omega⟩
    refine ⟨true, ?_, ⟨fun _ j h1 h2 => by omega, fun _ => rfl⟩⟩
    simp only [wardenref03_Has.l0]
    rw [if_neg (by omega)]
  | d + 1, i, k, hi, hk => by
    obtain ⟨k, rfl⟩ : ∃ m, k = m + 1 := ⟨k - 1, by omega⟩
    obtain ⟨r, hr, hiff⟩ := refHas_loop t x d (i + 1) k (by omega) (by omega)
    have hi64 : i < 64 := by omega
    have ew : wrap64 (if x.getLsbD i = true then (1 : Int) else 0) = if x.getLsbD i = true then 1 else 0 := wrap01 _
    have split : (∀ j, i ≤ j → j < 64 → bitN t j = 2 ∨ bitN t j = (if x.getLsbD j then 1 else 0)) ↔ (bitN t i = 2 ∨ bitN t i = (if x.getLsbD i then 1 else 0)) ∧ (∀ j, i + 1 ≤ j → j < 64 → bitN t j = 2 ∨ bitN t j = (if x.getLsbD j then 1 else 0)) := by
      constructor
      · intro h
        exact ⟨h i (Nat.le_refl _) hi64, fun j h1 h2 => h j (by omega) h2⟩
      · rintro ⟨h1, h2⟩ j h3 h4
        by_cases hj : j = i
        · subst hj; exact h1
        · exact h2 j (by omega) h4
    rw [split]
    simp only [wardenref03_Has.l0]
    rw [if_pos (by omega), bit_eq t hi64, bs, wrapS hi64, wrapN hi64, hr, bitI, ew]
    by_cases h2 : bitN t i = 2
    · rw [if_pos h2]
      exact ⟨r, rfl, by rw [hiff]; simp [h2]⟩
    · rw [if_neg h2, if_pos (Int.natCast_nonneg _)]
      by_cases h3 : bitN t i = (if x.getLsbD i = true then 1 else 0)
      · rw [if_pos h3]
        exact ⟨r, rfl, by rw [hiff]; simp [h3]⟩
      · rw [if_neg h3]
        exact ⟨false, rfl, by simp [h2, h3]⟩
theorem refHas {t : T} (ht : May t) (x : W) {k : Nat} (hk : 200 ≤ k) : wardenref03_Has.f k (I t.v) (I t.m) (I x) = some (decide (Has t x)) := by
  unfold wardenref03_Has.f
  obtain ⟨r, hr, hiff⟩ := refHas_loop t x 64 0 k (by omega) (by omega)
  have e : wardenref03_Has.l0 k (I x) 0 (I t.v) (I t.m) = some r := hr
  rw [e]
  congr 1
  rw [Bool.eq_iff_iff, decide_eq_true_eq, hiff, TM.has_iff ht]
  exact ⟨fun h j hj => h j (by omega) hj, fun h j _ hj => h j hj⟩
theorem refIn_loop (a b : T) : ∀ (d i k : Nat), i + d = 64 → d + 1 ≤ k → ∃ r, wardenref03_In.l0 k (i : Int) (I a.v) (I a.m) (I b.v) (I b.m) = some r ∧
    (r = true ↔ ∀ j, i ≤ j → j < 64 → bitN b j = 2 ∨ bitN a j = bitN b j)
  | 0, i, k, hi, hk => by
    obtain ⟨k, rfl⟩ : ∃ m, k = m + 1 := ⟨k - 1, by omega⟩
    refine ⟨true, ?_, ⟨fun _ j h1 h2 => by omega, fun _ => rfl⟩⟩
    simp only [wardenref03_In.l0]
    rw [if_neg (by omega)]
  | d + 1, i, k, hi, hk => by
    obtain ⟨k, rfl⟩ : ∃ m, k = m + 1 := ⟨k - 1, by omega⟩
    obtain ⟨r, hr, hiff⟩ := refIn_loop a b d (i + 1) k (by omega) (by omega)
    have hi64 : i < 64 := by omega
    have split : (∀ j, i ≤ j → j < 64 → bitN b j = 2 ∨ bitN a j = bitN b j) ↔ (bitN b i = 2 ∨ bitN a i = bitN b i) ∧ (∀ j, i + 1 ≤ j → j < 64 → bitN b j = 2 ∨ bitN a j = bitN b j) := by
      constructor
      · intro h
        exact ⟨h i (Nat.le_refl _) hi64, fun j h1 h2 => h j (by omega) h2⟩
      · rintro ⟨h1, h2⟩ j h3 h4
        by_cases hj : j = i
        · subst hj; exact h1
        · exact h2 j (by omega) h4
    rw [split]
    simp only [wardenref03_In.l0]
    rw [if_pos (by omega), bit_eq b hi64, bit_eq a hi64, bs, bs, bs, wrapS hi64, hr]
    by_cases h2 : bitN b i = 2
    · rw [if_pos h2]
      exact ⟨r, rfl, by rw [hiff]; simp [h2]⟩
    · rw [if_neg h2]
      by_cases h3 : bitN a i = bitN b i
      · rw [if_pos h3]
        exact ⟨r, rfl, by rw [hiff]; simp [h3]⟩
      · rw [if_neg h3]
        exact ⟨false, rfl, by simp [h2, h3]⟩
theorem refIn {a b : T} (ha : May a) (hb : May b) {k : Nat} (hk : 200 ≤ k) : wardenref03_In.f k (I a.v) (I a.m) (I b.v) (I b.m) = some (decide (In a b)) := by
  unfold wardenref03_In.f
  obtain ⟨r, hr, hiff⟩ := refIn_loop a b 64 0 k (by omega) (by omega)
  have e : wardenref03_In.l0 k 0 (I a.v) (I a.m) (I b.v) (I b.m) = some r := hr
  rw [e]
  congr 1
  rw [Bool.eq_iff_iff, decide_eq_true_eq, hiff, TM.in_iff ha hb]
  exact ⟨fun h j hj => h j (by omega) hj, fun h j _ hj => h j hj⟩
/-! what both have -/
theorem refMeet_loop (a b : T) : ∀ (d i k : Nat), i + d = 64 → d + 1 ≤ k →
    ((∀ j, i ≤ j → j < 64 → TM.okMeet (bitN a j) (bitN b j)) → wardenref03_Meet.l0 k (i : Int) (I a.v) (I a.m) (I b.v) (I b.m) (I (build (fun j => TM.gMeet (bitN a j) (bitN b j)) i).v) (I (build (fun j => TM.gMeet (bitN a j) (bitN b j)) i).m) =
      some (I (build (fun j => TM.gMeet (bitN a j) (bitN b j)) 64).v, I (build (fun j => TM.gMeet (bitN a j) (bitN b j)) 64).m, true)) ∧
    (¬ (∀ j, i ≤ j → j < 64 → TM.okMeet (bitN a j) (bitN b j)) → wardenref03_Meet.l0 k (i : Int) (I a.v) (I a.m) (I b.v) (I b.m) (I (build (fun j => TM.gMeet (bitN a j) (bitN b j)) i).v) (I (build (fun j => TM.gMeet (bitN a j) (bitN b j)) i).m) = some (0, 0, false))
  | 0, i, k, hi, hk => by
    obtain ⟨k, rfl⟩ : ∃ m, k = m + 1 := ⟨k - 1, by omega⟩
    obtain rfl : i = 64 := by omega
    constructor
    · intro _
      simp only [wardenref03_Meet.l0]
      rw [if_neg (by omega)]
    · intro h
      exact absurd (fun j h1 h2 => by omega) h
  | d + 1, i, k, hi, hk => by
    obtain ⟨k, rfl⟩ : ∃ m, k = m + 1 := ⟨k - 1, by omega⟩
    obtain ⟨ih1, ih2⟩ := refMeet_loop a b d (i + 1) k (by omega) (by omega)
    have hi64 : i < 64 := by omega
    have split : (∀ j, i ≤ j → j < 64 → TM.okMeet (bitN a j) (bitN b j)) ↔ TM.okMeet (bitN a i) (bitN b i) ∧ (∀ j, i + 1 ≤ j → j < 64 → TM.okMeet (bitN a j) (bitN b j)) := by
      constructor
      · intro h
        exact ⟨h i (Nat.le_refl _) hi64, fun j h1 h2 => h j (by omega) h2⟩
      · rintro ⟨h1, h2⟩ j h3 h4
        by_cases hj : j = i
        · subst hj; exact h1
        · exact h2 j (by omega) h4
    have step : TM.okMeet (bitN a i) (bitN b i) → wardenref03_Meet.l0 (k + 1) (i : Int) (I a.v) (I a.m) (I b.v) (I b.m) (I (build (fun j => TM.gMeet (bitN a j) (bitN b j)) i).v) (I (build (fun j => TM.gMeet (bitN a j) (bitN b j)) i).m) =
        wardenref03_Meet.l0 k ((i + 1 : Nat) : Int) (I a.v) (I a.m) (I b.v) (I b.m) (I (build (fun j => TM.gMeet (bitN a j) (bitN b j)) (i + 1)).v) (I (build (fun j => TM.gMeet (bitN a j) (bitN b j)) (i + 1)).m) := by
      intro hok
      simp only [wardenref03_Meet.l0]
      rw [if_pos (by omega), bit_eq a hi64, bit_eq b hi64, bs, bs, wrapS hi64, put_eq _ hi64, put_eq _ hi64]
      simp only [bs]
      have eb : build (fun j => TM.gMeet (bitN a j) (bitN b j)) (i + 1) = putT (build (fun j => TM.gMeet (bitN a j) (bitN b j)) i) i (TM.gMeet (bitN a i) (bitN b i)) := rfl
      rw [eb]
      unfold TM.gMeet
      unfold TM.okMeet at hok
      by_cases h1 : bitN a i = 2
      · rw [if_pos h1, if_pos h1]
        by_cases h2 : bitN b i = 2
        · rw [if_pos h2]
        · rw [if_neg h2, if_pos trivial]
      · rw [if_neg h1, if_neg h1]
        by_cases h2 : bitN b i = 2
        · rw [if_pos h2]
        · rw [if_neg h2, if_pos (by rcases hok with h | h | h; exact absurd h h1; exact absurd h h2; exact h)]
    constructor
    · intro h
      rw [step (split.1 h).1]
      exact ih1 (split.1 h).2
    · intro h
      by_cases hok : TM.okMeet (bitN a i) (bitN b i)
      · rw [step hok]
        exact ih2 (fun h' => h (split.2 ⟨hok, h'⟩))
      · simp only [wardenref03_Meet.l0]
        rw [if_pos (by omega), bit_eq a hi64, bit_eq b hi64, bs, bs, if_neg (fun h' => hok (.inl h')), if_neg (fun h' => hok (.inr (.inl h'))), if_neg (fun h' => hok (.inr (.inr h')))]
theorem refMeet {a b : T} (ha : May a) (hb : May b) {k : Nat} (hk : 200 ≤ k) : wardenref03_Meet.f k (I a.v) (I a.m) (I b.v) (I b.m) = if TM.meets a b then some (I (TM.meet a b).v, I (TM.meet a b).m, true) else some (0, 0, false) := by
  unfold wardenref03_Meet.f
  obtain ⟨h1, h2⟩ := refMeet_loop a b 64 0 k (by omega) (by omega)
  have e : (∀ j, 0 ≤ j → j < 64 → TM.okMeet (bitN a j) (bitN b j)) ↔ TM.meets a b := by
    rw [TM.meets_iff ha hb]
    exact ⟨fun h j hj => h j (by omega) hj, fun h j _ hj => h j hj⟩
  by_cases h : TM.meets a b
  · rw [if_pos h]
    have := h1 (e.2 h)
    rw [TM.meet_build ha hb h] at this
    exact this
  · rw [if_neg h]
    exact h2 (fun h' => h (e.1 h'))
/-! the lowest bits -/
theorem build_zero {g : Nat → Int} {i : Nat} (h : ∀ j, i ≤ j → g j = 0) : ∀ d, build g (i + d) = build g i
  | 0 => rfl
  | d + 1 => by
    show putT (build g (i + d)) (i + d) (g (i + d)) = _
    rw [h (i + d) (by omega), build_zero h d]
    rfl
theorem refLow_loop (a : T) (n : Int) (hn : 0 ≤ n) : ∀ (d i k : Nat), i + d = 64 → 2 * d + 2 ≤ k → i ≤ n.toNat →
    wardenref03_Low.l0 k n (i : Int) (I a.v) (I a.m) (I (build (fun j => if j < n.toNat then bitN a j else 0) i).v) (I (build (fun j => if j < n.toNat then bitN a j else 0) i).m) =
      some (I (build (fun j => if j < n.toNat then bitN a j else 0) 64).v, I (build (fun j => if j < n.toNat then bitN a j else 0) 64).m)
  | 0, i, k, hi, hk, hin => by
    obtain ⟨k, rfl⟩ : ∃ m, k = m + 2 := ⟨k - 2, by omega⟩
    obtain rfl : i = 64 := by omega
    simp only [wardenref03_Low.l0]
    rw [if_neg (by omega)]
    simp only [wardenref03_Low.j1]
    rw [if_neg (by decide)]
  | d + 1, i, k, hi, hk, hin => by
    obtain ⟨k, rfl⟩ : ∃ m, k = m + 2 := ⟨k - 2, by omega⟩
    have hi64 : i < 64 := by omega
    simp only [wardenref03_Low.l0]
    rw [if_pos (by omega), wrapN hi64]
    simp only [wardenref03_Low.j1]
    by_cases h : (i : Int) < n
    · rw [if_pos (by simpa using h), bit_eq a hi64, bs, put_eq _ hi64, bs, wrapS hi64]
      have e : putT (build (fun j => if j < n.toNat then bitN a j else 0) i) i (bitN a i) = build (fun j => if j < n.toNat then bitN a j else 0) (i + 1) := by
        show _ = putT _ _ (if i < n.toNat then bitN a i else 0)
        rw [if_pos (by omega)]
      have := refLow_loop a n hn d (i + 1) k (by omega) (by omega) (by omega)
      rw [← e] at this
      exact this
    · rw [if_neg (by simpa using h)]
      have := build_zero (g := fun j => if j < n.toNat then bitN a j else 0) (i := i) (fun j hj => if_neg (by omega)) (d + 1)
      rw [hi] at this
      rw [this]
theorem refLow {a : T} (ha : May a) (n : Int) (hn : 0 ≤ n) {k : Nat} (hk : 200 ≤ k) : wardenref03_Low.f k (I a.v) (I a.m) n = some (I (TM.low a n.toNat).v, I (TM.low a n.toNat).m) := by
  unfold wardenref03_Low.f
  have := refLow_loop a n hn 64 0 k (by omega) (by omega) (by omega)
  rw [TM.low_build ha] at this
  exact this
/-! rows -/
theorem alike_step {x y : W} {i : Nat} (hi : i < 64) : TM.alike x y i ↔ TM.alike x y (i + 1) ∧ x.getLsbD i = y.getLsbD i := by
  constructor
  · intro h
    exact ⟨fun j h1 h2 => h j (by omega) h2, h i (Nat.le_refl _) hi⟩
  · rintro ⟨h1, h2⟩ j h3 h4
    by_cases hj : j = i
    · subst hj; exact h2
    · exact h1 j (by omega) h4
open Classical in
theorem refRange_loop (x y : W) : ∀ (e d k : Nat), d + e = 64 → 2 * e + 1 ≤ k →
    wardenref03_Range.l0 k (I x) (I y) (decide (TM.alike x y e)) ((e : Int) - 1) (I (TM.buildD (TM.gRange x y) d).v) (I (TM.buildD (TM.gRange x y) d).m) =
      some (I (TM.buildD (TM.gRange x y) 64).v, I (TM.buildD (TM.gRange x y) 64).m)
  | 0, d, k, hd, hk => by
    obtain ⟨k, rfl⟩ : ∃ m, k = m + 1 := ⟨k - 1, by omega⟩
    obtain rfl : d = 64 := by omega
    simp only [wardenref03_Range.l0]
    rw [if_neg (by omega)]
  | e + 1, d, k, hd, hk => by
    obtain ⟨k, rfl⟩ : ∃ m, k = m + 2 := ⟨k - 2, by omega⟩
    have he : e < 64 := by omega
    have ih := refRange_loop x y e (d + 1) k (by omega) (by omega)
    have e1 : (((e + 1 : Nat) : Int) - 1) = (e : Int) := by omega
    have ed : 63 - d = e := by omega
    have eb : TM.buildD (TM.gRange x y) (d + 1) = putT (TM.buildD (TM.gRange x y) d) e (TM.gRange x y e) := by
      show putT _ (63 - d) (TM.gRange x y (63 - d)) = _
      rw [ed]
    have ew : wrap64 ((e : Int) - 1) = (e : Int) - 1 := by unfold wrap64; omega
    have ewx : wrap64 (if x.getLsbD e = true then (1 : Int) else 0) = if x.getLsbD e = true then 1 else 0 := wrap01 _
    have ewy : wrap64 (if y.getLsbD e = true then (1 : Int) else 0) = if y.getLsbD e = true then 1 else 0 := wrap01 _
    rw [e1]
    simp only [wardenref03_Range.l0]
    rw [if_pos (Int.natCast_nonneg e), wrapN he, if_pos (Int.natCast_nonneg e), bitI, bitI, ewx, ewy]
    rw [eb] at ih
    by_cases h : TM.alike x y (e + 1)
    · rw [if_pos (decide_eq_true h)]
      simp only [wardenref03_Range.j1]
      by_cases h2 : x.getLsbD e = y.getLsbD e
      · have ha : TM.alike x y e := (alike_step he).2 ⟨h, h2⟩
        rw [h2, if_pos (by simp), put_eq _ he, bs, ew]
        have eg : TM.gRange x y e = if y.getLsbD e = true then 1 else 0 := by unfold TM.gRange; rw [if_pos ha, h2]
        rw [eg, decide_eq_true ha] at ih
        simpa using ih
      · have ha : ¬ TM.alike x y e := fun h' => h2 ((alike_step he).1 h').2
        have hne : ((if x.getLsbD e = true then (1 : Int) else 0) == (if y.getLsbD e = true then 1 else 0)) = false := by
          revert h2
          cases x.getLsbD e <;> cases y.getLsbD e <;> simp
        rw [hne, if_neg (by decide), put_eq _ he, bs, ew]
        have eg : TM.gRange x y e = 2 := by unfold TM.gRange; rw [if_neg ha]
        rw [eg, decide_eq_false ha] at ih
        exact ih
    · have ha : ¬ TM.alike x y e := fun h' => h ((alike_step he).1 h').1
      rw [if_neg (by simpa using h)]
      simp only [wardenref03_Range.j1]
      rw [if_neg (by decide), put_eq _ he, bs, ew]
      have eg : TM.gRange x y e = 2 := by unfold TM.gRange; rw [if_neg ha]
      rw [eg, decide_eq_false ha] at ih
      exact ih
open Classical in
theorem refRange (x y : W) (h : ¬ I x > I y) {k : Nat} (hk : 200 ≤ k) : wardenref03_Range.f k (I x) (I y) = some (I (TM.range x y (len x y)).v, I (TM.range x y (len x y)).m) := by
  unfold wardenref03_Range.f
  rw [if_neg h]
  have ha : TM.alike x y 64 := fun j h1 h2 => by omega
  have := refRange_loop x y 64 0 k (by omega) (by omega)
  rw [decide_eq_true ha, TM.range_build (len_lt x y) (fun j hj => len_le x y j hj)] at this
  exact this
theorem refRange' (k : Nat) (x y : W) (h : I x > I y) : wardenref03_Range.f k (I x) (I y) = some (0, 18446744073709551615) := by
  unfold wardenref03_Range.f
  rw [if_pos h]
end Go.Proofs.Ytnljfoaacngamaa.BR
