/- Places marked, sweep by sweep, till all that are reached are: plain words. -/
import Derived.Test.YtojjjkeciiieeaaOModel
namespace Go.Proofs.Ytojjjkeciiieeaa
set_option linter.unusedVariables false
set_option linter.unusedSimpArgs false
def cnt (B : List Bool) : Nat := B.count true
def LeB (A B : List Bool) : Prop := ∀ j : Nat, A[j]? = some true → B[j]? = some true
theorem LeB.refl (A : List Bool) : LeB A A := fun _ h => h
theorem LeB.trans {A B C : List Bool} (h : LeB A B) (g : LeB B C) : LeB A C := fun j hj => g j (h j hj)
theorem LeB.mark (A : List Bool) (x : Nat) : LeB A (A.set x true) := fun j hj => by
  have hl := (List.getElem?_eq_some_iff.1 hj).1
  by_cases e : x = j
  · subst e; rw [List.getElem?_set_self hl]
  · rw [List.getElem?_set_ne e]; exact hj
theorem mark_inv {A : List Bool} {x j : Nat} (h : (A.set x true)[j]? = some true) : A[j]? = some true ∨ j = x := by
  by_cases e : x = j
  · exact .inr e.symm
  · rw [List.getElem?_set_ne e] at h; exact .inl h
theorem cnt_le : ∀ (A B : List Bool), A.length = B.length → LeB A B → cnt A ≤ cnt B ∧ ((∃ j : Nat, B[j]? = some true ∧ A[j]? ≠ some true) → cnt A < cnt B)
  | [], [], _, _ => ⟨Nat.le_refl _, fun ⟨j, h, _⟩ => by simp at h⟩
  | a :: A, b :: B, hl, h => by
    have hl' : A.length = B.length := by simpa using hl
    have ih := cnt_le A B hl' (fun j hj => by simpa using h (j + 1) (by simpa using hj))
    have h0 : a = true → b = true := fun e => by simpa using h 0 (by simp [e])
    unfold cnt at ih ⊢
    rw [List.count_cons, List.count_cons]
    refine ⟨?_, fun ⟨j, hj1, hj2⟩ => ?_⟩
    · have := ih.1
      cases a <;> cases b <;> simp at h0 ⊢ <;> omega
    · match j, hj1, hj2 with
      | 0, hj1, hj2 =>
        have := ih.1
        simp at hj1 hj2
        subst hj1
        cases a
        · simp; omega
        · simp at hj2
      | j + 1, hj1, hj2 =>
        have := ih.2 ⟨j, by simpa using hj1, by simpa using hj2⟩
        cases a <;> cases b <;> simp at h0 ⊢ <;> omega
theorem cnt_full {B : List Bool} (h : B.length ≤ cnt B) {j : Nat} (hj : j < B.length) : B[j]? = some true := by
  have h1 : B.count true ≤ B.length := List.count_le_length
  have h2 : B.count true = B.length := Nat.le_antisymm h1 h
  have h3 := List.count_eq_length.1 h2 _ (List.getElem_mem hj)
  rw [List.getElem?_eq_getElem hj, ← h3]
section
variable {t : Tab} {i : Int}
def SoundB (t : Tab) (i : Int) (B : List Bool) : Prop := B.length = t.length ∧ ∀ j : Nat, B[j]? = some true → Rch (adj t) i (j : Int)
def DoneB (t : Tab) (i : Int) (B : List Bool) : Prop := ∀ j : Nat, j < t.length → (B[j]? = some true ↔ Rch (adj t) i (j : Int))
def InvB (t : Tab) (i : Int) (n : Nat) (B : List Bool) : Prop := SoundB t i B ∧ (DoneB t i B ∨ n ≤ cnt B)
/-- Who is ahead of k has marked all it holds. -/
def CovB (t : Tab) (i : Int) (k : Nat) (A B : List Bool) : Prop := ∀ k' : Nat, k' < k → ((k' : Int) = i ∨ A[k']? = some true) → ∀ j ∈ adj t (k' : Int), B[j.toNat]? = some true
theorem SoundB.mark {B : List Bool} (h : SoundB t i B) {x : Int} (hx : 0 ≤ x) (hr : Rch (adj t) i x) : SoundB t i (B.set x.toNat true) := by
  refine ⟨by simp [h.1], fun j hj => ?_⟩
  rcases mark_inv hj with h1 | e
  · exact h.2 j h1
  · rw [e, Int.toNat_of_nonneg hx]; exact hr
theorem InvB.start (t : Tab) (i : Int) : InvB t i 0 (List.replicate t.length false) := by
  refine ⟨⟨by simp, fun j hj => ?_⟩, .inr (Nat.zero_le _)⟩
  rw [List.getElem?_replicate] at hj
  split at hj <;> simp at hj
theorem CovB.more {k : Nat} {A B B' : List Bool} (h : CovB t i k A B) (hl : LeB B B') : CovB t i k A B' := fun k' hk hc j hj => hl _ (h k' hk hc j hj)
theorem CovB.next {k : Nat} {A B : List Bool} (h : CovB t i k A B) (g : ((k : Int) = i ∨ A[k]? = some true) → ∀ j ∈ adj t (k : Int), B[j.toNat]? = some true) : CovB t i (k + 1) A B := fun k' hk hc j hj => by
  by_cases e : k' = k
  · subst e; exact g hc j hj
  · exact h k' (by omega) hc j hj
theorem InvB.sweep {n : Nat} {A B : List Bool} (h : InvB t i n A) (hi : 0 ≤ i ∧ i < (t.length : Int)) (hs : SoundB t i B) (hl : LeB A B) (hc : CovB t i t.length A B) : InvB t i (n + 1) B := by
  refine ⟨hs, ?_⟩
  rcases h.2 with hd | hn
  · exact .inl fun j hj => ⟨hs.2 j, fun hr => hl j ((hd j hj).2 hr)⟩
  · by_cases he : ∃ j : Nat, B[j]? = some true ∧ A[j]? ≠ some true
    · right
      have := (cnt_le A B (by rw [h.1.1, hs.1]) hl).2 he
      omega
    · left
      have hA : ∀ j : Nat, B[j]? = some true → A[j]? = some true := fun j hj => Classical.byContradiction fun g => he ⟨j, hj, g⟩
      intro j hj
      refine ⟨hs.2 j, fun hr => ?_⟩
      have hcl := hr.closed (S := fun x => 0 ≤ x ∧ B[x.toNat]? = some true) (fun x hx => ?_) (fun x hx y hy => ?_)
      · simpa using hcl.2
      · have hx0 := adj_within t _ _ hx
        have := hc i.toNat (by omega) (.inl (by omega)) x (by rw [Int.toNat_of_nonneg hi.1]; exact hx)
        exact ⟨hx0.1, this⟩
      · have hy0 := adj_within t _ _ hy
        have hxl := (List.getElem?_eq_some_iff.1 hx.2).1
        have := hc x.toNat (by rw [← hs.1]; exact hxl) (.inr (hA _ hx.2)) y (by rw [Int.toNat_of_nonneg hx.1]; exact hy)
        exact ⟨hy0.1, this⟩
theorem InvB.done {B : List Bool} (h : InvB t i t.length B) : DoneB t i B := by
  rcases h.2 with hd | hn
  · exact hd
  · intro j hj
    refine ⟨h.1.2 j, fun _ => cnt_full (by rw [h.1.1]; exact hn) (by rw [h.1.1]; exact hj)⟩
end
end Go.Proofs.Ytojjjkeciiieeaa
