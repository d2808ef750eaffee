/- Who reaches whom, and how deep: plain words on numbers and lists. -/
import Derived.WalkKit
namespace Go.Proofs.Ytojjjkeciiieeaa
set_option linter.unusedVariables false
set_option linter.unusedSimpArgs false
/-- From a place, by one step or more. -/
inductive Rch (adj : Int → List Int) : Int → Int → Prop
  | one {i k : Int} (h : k ∈ adj i) : Rch adj i k
  | step {i k j : Int} (h : k ∈ adj i) (g : Rch adj k j) : Rch adj i j
section
variable {adj : Int → List Int}
theorem Rch.trans {i k j : Int} (h : Rch adj i k) (g : Rch adj k j) : Rch adj i j := by
  induction h with
  | one h => exact .step h g
  | step h _ ih => exact .step h (ih g)
theorem Rch.snoc {i k j : Int} (h : Rch adj i k) (g : j ∈ adj k) : Rch adj i j := h.trans (.one g)
/-- What a set that holds the next ones of i, and of its own, holds. -/
theorem Rch.closed {S : Int → Prop} {i j : Int} (h : Rch adj i j) (h0 : ∀ k ∈ adj i, S k) (hc : ∀ x, S x → ∀ k ∈ adj x, S k) : S j := by
  induction h with
  | one h => exact h0 _ h
  | step h _ ih => exact ih (hc _ (h0 _ h))
theorem Rch.mono {adj' : Int → List Int} (hm : ∀ i k, k ∈ adj i → k ∈ adj' i) {i j : Int} (h : Rch adj i j) : Rch adj' i j := by
  induction h with
  | one h => exact .one (hm _ _ h)
  | step h _ ih => exact .step (hm _ _ h) ih
/-- Nobody whom it reaches, nor itself, owns itself. -/
def Fine (adj : Int → List Int) (i : Int) : Prop := ¬ Rch adj i i ∧ ∀ k, Rch adj i k → ¬ Rch adj k k
theorem Fine.next {i k : Int} (h : Fine adj i) (hk : k ∈ adj i) : Fine adj k := ⟨h.2 k (.one hk), fun j hj => h.2 j (.step hk hj)⟩
/-- The greatest of so many, one more each. -/
def mxs : List Nat → Nat
  | [] => 0
  | a :: l => max (a + 1) (mxs l)
theorem mxs_le {l : List Nat} {a : Nat} (h : a ∈ l) : a + 1 ≤ mxs l := by
  induction l with
  | nil => cases h
  | cons b l ih =>
    simp only [mxs]
    rcases List.mem_cons.1 h with rfl | h
    · omega
    · have := ih h; omega
theorem mxs_bound {l : List Nat} {m : Nat} (h : ∀ a ∈ l, a + 1 ≤ m) : mxs l ≤ m := by
  induction l with
  | nil => simp [mxs]
  | cons b l ih =>
    simp only [mxs]
    have h1 := h b (by simp)
    have h2 := ih (fun a ha => h a (by simp [ha]))
    omega
theorem mxs_at (l : List Nat) : mxs l = 0 ∧ l = [] ∨ ∃ a ∈ l, mxs l = a + 1 := by
  induction l with
  | nil => exact .inl ⟨rfl, rfl⟩
  | cons b l ih =>
    refine .inr ?_
    rcases ih with ⟨e, rfl⟩ | ⟨a, ha, e⟩
    · exact ⟨b, by simp, by simp [mxs]⟩
    · simp only [mxs]
      by_cases hb : a ≤ b
      · exact ⟨b, by simp, by omega⟩
      · exact ⟨a, by simp [ha], by omega⟩
/-- How deep, so many steps at most. -/
def dep (adj : Int → List Int) : Nat → Int → Nat
  | 0, _ => 0
  | f + 1, i => mxs ((adj i).map (dep adj f))
theorem dep_le (f : Nat) (i : Int) : dep adj f i ≤ f := by
  induction f generalizing i with
  | zero => simp [dep]
  | succ f ih =>
    simp only [dep]
    refine mxs_bound fun a ha => ?_
    obtain ⟨k, _, rfl⟩ := List.mem_map.1 ha
    have := ih k
    omega
theorem dep_mono (f : Nat) (i : Int) : dep adj f i ≤ dep adj (f + 1) i := by
  induction f generalizing i with
  | zero => simp [dep]
  | succ f ih =>
    simp only [dep]
    refine mxs_bound fun a ha => ?_
    obtain ⟨k, hk, rfl⟩ := List.mem_map.1 ha
    have h1 := ih k
    have h2 := mxs_le (List.mem_map.2 ⟨k, hk, rfl⟩ : dep adj (f + 1) k ∈ (adj i).map (dep adj (f + 1)))
    simp only [dep] at h1 h2 ⊢
    omega
/-- What is not as deep as it might be is no deeper. -/
theorem dep_stop (f : Nat) (i : Int) (h : dep adj f i < f) : dep adj (f + 1) i = dep adj f i := by
  induction f generalizing i with
  | zero => omega
  | succ f ih =>
    have key : ∀ k ∈ adj i, dep adj (f + 1) k = dep adj f k := fun k hk => by
      have h2 := mxs_le (List.mem_map.2 ⟨k, hk, rfl⟩ : dep adj f k ∈ (adj i).map (dep adj f))
      simp only [dep] at h
      exact ih k (by omega)
    show mxs ((adj i).map (dep adj (f + 1))) = mxs ((adj i).map (dep adj f))
    congr 1
    exact List.map_congr_left key
/-- A way as long as it is deep. -/
def Path (adj : Int → List Int) : Int → List Int → Prop
  | _, [] => True
  | i, k :: l => k ∈ adj i ∧ Path adj k l
theorem dep_path (f : Nat) (i : Int) : ∃ l, l.length = dep adj f i ∧ Path adj i l := by
  induction f generalizing i with
  | zero => exact ⟨[], rfl, trivial⟩
  | succ f ih =>
    rcases mxs_at ((adj i).map (dep adj f)) with ⟨e, _⟩ | ⟨a, ha, e⟩
    · exact ⟨[], by simp only [dep]; rw [e]; rfl, trivial⟩
    · obtain ⟨k, hk, rfl⟩ := List.mem_map.1 ha
      obtain ⟨l, h1, h2⟩ := ih k
      exact ⟨k :: l, by simp only [dep]; rw [e]; simp [h1], hk, h2⟩
theorem path_reach {i : Int} : ∀ {l : List Int}, Path adj i l → ∀ k ∈ l, Rch adj i k
  | [], _, k, hk => by cases hk
  | a :: l, h, k, hk => by
    rcases List.mem_cons.1 hk with rfl | hk
    · exact .one h.1
    · exact .step h.1 (path_reach h.2 k hk)
theorem path_nodup {i : Int} (hg : Fine adj i) : ∀ {l : List Int}, Path adj i l → (i :: l).Nodup := by
  intro l
  induction l generalizing i with
  | nil => intro _; simp
  | cons k l ih =>
    intro h
    refine List.nodup_cons.2 ⟨fun hm => ?_, ih (hg.next h.1) h.2⟩
    exact hg.1 (path_reach h i hm)
theorem nodup_bound : ∀ (n : Nat) (l : List Nat), l.Nodup → (∀ x ∈ l, x < n) → l.length ≤ n
  | 0, l, _, h => by
    cases l with
    | nil => simp
    | cons a l => exact absurd (h a (by simp)) (by omega)
  | n + 1, l, hn, h => by
    by_cases hm : n ∈ l
    · have h1 := nodup_bound n (l.erase n) (hn.erase n) (fun x hx => by
        have h2 := (hn.mem_erase_iff).1 hx
        have := h x h2.2
        omega)
      rw [List.length_erase_of_mem hm] at h1
      omega
    · have := nodup_bound n l hn (fun x hx => by
        have h1 := h x hx
        have : x ≠ n := fun e => hm (e ▸ hx)
        omega)
      omega
theorem nodup_range {n : Nat} {l : List Int} (h : l.Nodup) (hr : ∀ x ∈ l, 0 ≤ x ∧ x < n) : l.length ≤ n := by
  have h1 : (l.map Int.toNat).Nodup := by
    rw [List.Nodup, List.pairwise_map]
    refine h.imp_of_mem fun {a b} ha hb hne e => hne ?_
    have := hr a ha
    have := hr b hb
    omega
  have h2 : (l.map Int.toNat) ⊆ List.range n := fun x hx => by
    obtain ⟨y, hy, rfl⟩ := List.mem_map.1 hx
    have := hr y hy
    exact List.mem_range.2 (by omega)
  have := nodup_bound n _ h1 (fun x hx => List.mem_range.1 (h2 hx))
  simpa using this
/-- All next ones are within. -/
def Within (adj : Int → List Int) (n : Nat) : Prop := ∀ i k, k ∈ adj i → 0 ≤ k ∧ k < n
theorem Rch.within {n : Nat} (hw : Within adj n) {i j : Int} (h : Rch adj i j) : 0 ≤ j ∧ j < n := by
  induction h with
  | one h => exact hw _ _ h
  | step _ _ ih => exact ih
theorem dep_lt {n : Nat} (hw : Within adj n) {i : Int} (hi : 0 ≤ i ∧ i < n) (hg : Fine adj i) (f : Nat) : dep adj f i < n := by
  obtain ⟨l, h1, h2⟩ := dep_path (adj := adj) f i
  have h3 := path_nodup hg h2
  have h4 := nodup_range (n := n) h3 (fun x hx => by
    rcases List.mem_cons.1 hx with rfl | hx
    · exact hi
    · exact (path_reach h2 x hx).within hw)
  simp at h4
  omega
/-- How deep a good one is. -/
theorem dep_fix {n : Nat} (hw : Within adj n) {i : Int} (hi : 0 ≤ i ∧ i < n) (hg : Fine adj i) : ∀ f, n ≤ f → dep adj f i = dep adj n i := by
  intro f hf
  induction f with
  | zero => exfalso; omega
  | succ f ih =>
    by_cases e : n = f + 1
    · rw [e]
    · rw [dep_stop f i (Nat.lt_of_lt_of_le (dep_lt hw hi hg f) (by omega)), ih (by omega)]
theorem dep_next {n : Nat} (hw : Within adj n) {i : Int} (hi : 0 ≤ i ∧ i < n) (hg : Fine adj i) : dep adj n i = mxs ((adj i).map (dep adj n)) := by
  have := dep_fix hw hi hg (n + 1) (by omega)
  rw [← this]
  rfl
end
end Go.Proofs.Ytojjjkeciiieeaa
