/- A hash in plain words: what each call answers, what it makes of the values. -/
import Derived.Test.YtagjcnhgappcjaaHPure
namespace Go.Proofs.Ytagjcnhgappcjaa
open Go.RowKit
set_option linter.unusedVariables false
set_option linter.unusedSimpArgs false
set_option linter.unusedSectionVars false
def freeV (n : Int) (vs : Vs) : Option Nat := (List.range n.toNat).find? fun j => decide ((j : Int) ∉ vs.map (·.1))
theorem freeV_some {n : Int} {vs : Vs} {i : Nat} (h1 : (i : Int) < n) (h2 : (i : Int) ∉ vs.map (·.1)) (h3 : ∀ j : Nat, j < i → (j : Int) ∈ vs.map (·.1)) : freeV n vs = some i := by
  unfold freeV
  rw [List.find?_range_eq_some]
  refine ⟨decide_eq_true h2, by rw [List.mem_range]; omega, fun j hj => ?_⟩
  simpa using h3 j hj
theorem freeV_none {n : Int} {vs : Vs} (h : ∀ j : Nat, (j : Int) < n → (j : Int) ∈ vs.map (·.1)) : freeV n vs = none := by
  unfold freeV
  rw [List.find?_eq_none]
  intro j hj
  rw [List.mem_range] at hj
  simpa using h j (by omega)
theorem freeV_cases (n : Int) (vs : Vs) : (∃ i : Nat, freeV n vs = some i ∧ (i : Int) < n ∧ (i : Int) ∉ vs.map (·.1) ∧ ∀ j : Nat, j < i → (j : Int) ∈ vs.map (·.1)) ∨ (freeV n vs = none ∧ ∀ j : Nat, (j : Int) < n → (j : Int) ∈ vs.map (·.1)) := by
  cases h : freeV n vs with
  | some i =>
    have h2 := h
    unfold freeV at h2
    rw [List.find?_range_eq_some] at h2
    obtain ⟨a, b, c⟩ := h2
    rw [List.mem_range] at b
    exact .inl ⟨i, rfl, by omega, of_decide_eq_true a, fun j hj => by simpa using c j hj⟩
  | none =>
    have h2 := h
    unfold freeV at h2
    rw [List.find?_eq_none] at h2
    exact .inr ⟨rfl, fun j hj => by simpa using h2 j (by rw [List.mem_range]; omega)⟩
def put (size n : Int) (vs : Vs) (k : ByteArray) : (Int × Bool × Int) × Vs :=
  if k.size ≠ 8 then ((0, false, 2), vs) else
  match aget (swp vs) k with
  | some i => ((i, false, 0), vs)
  | none => match freeV n vs with
    | some i => (((i : Int), true, 0), vs ++ [((i : Int), k, List.replicate size.toNat 0)])
    | none => ((0, false, 6), vs)
def drop (vs : Vs) (k : ByteArray) : (Int × Int) × Vs :=
  if k.size ≠ 8 then ((0, 2), vs) else
  match aget (swp vs) k with
  | some i => ((i, 0), adel vs i)
  | none => ((0, 5), vs)
def find (vs : Vs) (k : ByteArray) : Int × Int :=
  if k.size ≠ 8 then (0, 2) else
  match aget (swp vs) k with
  | some i => (i, 0)
  | none => (0, 5)
def write (size : Int) (vs : Vs) (x o : Int) (t : ByteArray) : Int × Vs :=
  match aget vs x with
  | none => (5, vs)
  | some (k, L) => if 0 ≤ o ∧ o ≤ size ∧ (t.size : Int) ≤ size - o then (0, aput vs x (k, over L o.toNat t.data.toList)) else (9, vs)
def hget (vs : Vs) (x : Int) : ByteArray × Bool :=
  match aget vs x with
  | some (_, L) => (bstr L, true)
  | none => (⟨#[]⟩, false)
def hkey (vs : Vs) (x : Int) : ByteArray × Bool :=
  match aget vs x with
  | some (k, _) => (k, true)
  | none => (⟨#[]⟩, false)
structure HB (size n : Int) (vs : Vs) : Prop where
  s1 : 1 ≤ size
  s2 : size ≤ 128
  n1 : 1 ≤ n
  n2 : n ≤ 256
  inv : HInv size n vs
section
variable {size n : Int} {vs : Vs}
theorem HB.start (h1 : 1 ≤ size) (h2 : size ≤ 128) (h3 : 1 ≤ n) (h4 : n ≤ 256) : HB size n [] := ⟨h1, h2, h3, h4, .start _ _⟩
theorem HB.put (h : HB size n vs) (k : ByteArray) : HB size n (put size n vs k).2 := by
  refine ⟨h.s1, h.s2, h.n1, h.n2, ?_⟩
  unfold Ytagjcnhgappcjaa.put
  split
  · exact h.inv
  · rename_i hk
    split
    · exact h.inv
    · rename_i hg
      rcases freeV_cases n vs with ⟨i, e, h1, h2, _⟩ | ⟨e, _⟩
      · rw [e]
        exact h.inv.put h2 hg (by omega) h1 (by simpa using hk) (by simp; have := h.s1; omega)
      · rw [e]; exact h.inv
theorem HB.drop (h : HB size n vs) (k : ByteArray) : HB size n (drop vs k).2 := by
  refine ⟨h.s1, h.s2, h.n1, h.n2, ?_⟩
  unfold Ytagjcnhgappcjaa.drop
  split
  · exact h.inv
  · split
    · exact h.inv.del _
    · exact h.inv
theorem HB.write (h : HB size n vs) (x o : Int) (t : ByteArray) : HB size n (write size vs x o t).2 := by
  refine ⟨h.s1, h.s2, h.n1, h.n2, ?_⟩
  unfold Ytagjcnhgappcjaa.write
  split
  · exact h.inv
  · rename_i k L hg
    split
    · rename_i hf
      have hl : (L.length : Int) = size := h.inv.bs (x, k, L) (aget_mem hg)
      have ht : t.data.toList.length = t.size := rfl
      exact h.inv.write hg (over_length _ _ _ (by rw [ht]; omega))
    · exact h.inv
theorem HB.len (h : HB size n vs) : vs.length ≤ n.toNat := by
  have h1 : (vs.map fun v => v.1.toNat).Nodup := by
    have := h.inv.nd
    rw [List.nodup_iff_pairwise_ne, List.pairwise_map] at this ⊢
    refine this.imp_of_mem ?_
    intro a b ha hb hne e
    have := h.inv.bd a ha
    have := h.inv.bd b hb
    exact hne (by omega)
  have h2 : (vs.map fun v => v.1.toNat) ⊆ List.range n.toNat := fun x hx => by
    obtain ⟨v, hv, rfl⟩ := List.mem_map.1 hx
    have := h.inv.bd v hv
    rw [List.mem_range]; omega
  have := h1.length_le_of_subset h2
  simpa using this
theorem HB.okI (h : HB size n vs) {x : Int} {v : ByteArray × List UInt8} (hg : aget vs x = some v) : 0 ≤ x ∧ x < n := h.inv.bd _ (aget_mem hg)
end
end Go.Proofs.Ytagjcnhgappcjaa
