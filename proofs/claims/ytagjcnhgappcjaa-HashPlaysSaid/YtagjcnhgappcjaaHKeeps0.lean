/- What a value keeps: plain words. -/
import Derived.Test.YtagjcnhgappcjaaHModel
namespace Go.Proofs.Ytagjcnhgappcjaa
open Go.RowKit
set_option linter.unusedVariables false
set_option linter.unusedSimpArgs false
theorem aget_app {K V : Type} [DecidableEq K] (l m : List (K × V)) (x : K) : aget (l ++ m) x = (aget l x).or (aget m x) := by
  induction l with
  | nil => simp [aget]
  | cons p l ih =>
    obtain ⟨a, b⟩ := p
    simp only [List.cons_append, aget]
    split
    · simp
    · exact ih
theorem put_keeps {size n : Int} {vs : Vs} (k : ByteArray) {i : Int} {v : ByteArray × List UInt8} (h : aget vs i = some v) : aget (put size n vs k).2 i = some v := by
  unfold put
  split
  · exact h
  · split
    · exact h
    · split
      · rw [aget_app, h]; rfl
      · exact h
theorem drop_keeps {size n : Int} {vs : Vs} (hb : HB size n vs) {k key : ByteArray} (hk : k ≠ key) {i : Int} {L : List UInt8} (h : aget vs i = some (key, L)) : aget (drop vs k).2 i = some (key, L) := by
  unfold drop
  split
  · exact h
  · split
    · rename_i j hj
      rw [aget_adel]
      split
      · rename_i e
        subst e
        obtain ⟨b, hb'⟩ := hb.inv.find hj
        rw [h] at hb'
        cases hb'
        exact absurd rfl hk
      · exact h
    · exact h
theorem write_keeps {size : Int} {vs : Vs} {x o : Int} {t : ByteArray} {i : Int} (hx : x ≠ i) : aget (write size vs x o t).2 i = aget vs i := by
  unfold write
  split
  · rfl
  · split
    · rw [aget_aput, if_neg hx]
    · rfl
/-- What Put of a key of eight bytes answers. -/
theorem put_ok {size n : Int} {vs : Vs} (hb : HB size n vs) {k : ByteArray} (hk : k.size = 8) : ((put size n vs k).1 = (0, false, 6) ∧ (put size n vs k).2 = vs) ∨ ∃ (i : Int) (f : Bool) (L : List UInt8), (put size n vs k).1 = (i, f, 0) ∧ 0 ≤ i ∧ i < n ∧ aget (put size n vs k).2 i = some (k, L) ∧ (L.length : Int) = size := by
  have hb' := hb.put k
  unfold put at hb' ⊢
  rw [if_neg (by omega)] at hb' ⊢
  split
  · rename_i i hi
    obtain ⟨b, h1⟩ := hb.inv.find hi
    have := hb.okI h1
    exact .inr ⟨i, false, b, rfl, this.1, this.2, h1, hb.inv.bs (i, k, b) (aget_mem h1)⟩
  · rename_i hg
    rcases freeV_cases n vs with ⟨i, e, h1, h2, _⟩ | ⟨e, _⟩
    · rw [e]
      refine .inr ⟨i, true, List.replicate size.toNat 0, rfl, by omega, h1, ?_, by simp; have := hb.s1; omega⟩
      show aget (vs ++ [((i : Int), k, List.replicate size.toNat 0)]) (i : Int) = some (k, List.replicate size.toNat 0)
      rw [aget_app, (aget_none_iff vs _).2 h2]
      simp [aget]
    · rw [e]
      exact .inl ⟨rfl, rfl⟩
theorem write_ok {size : Int} {vs : Vs} {x o : Int} {t : ByteArray} {k : ByteArray} {L : List UInt8} (h : aget vs x = some (k, L)) (h0 : 0 ≤ o) (h1 : o + t.size ≤ size) : write size vs x o t = (0, aput vs x (k, over L o.toNat t.data.toList)) := by
  unfold write
  rw [h]
  simp only
  rw [if_pos ⟨h0, by omega, by omega⟩]
theorem over_at (L : List UInt8) (p : Nat) (m : List UInt8) (h : p + m.length ≤ L.length) : ((over L p m).drop p).take m.length = m := by
  unfold over
  rw [List.append_assoc, List.drop_left' (by simp; omega), List.take_left' rfl]
end Go.Proofs.Ytagjcnhgappcjaa
