/- Types that hold the next one, and one hold more: plain words. -/
import Derived.Test.YtojjjkeciiieeaaOChain
namespace Go.Proofs.Ytojjjkeciiieeaa
set_option linter.unusedVariables false
set_option linter.unusedSimpArgs false
set_option linter.unusedSectionVars false
/-- Each the next one; and x. -/
def EdgeT (t : Tab) (n : Nat) (x : Option (Int × Int)) : Prop := t.length = n ∧ ∀ i k, k ∈ adj t i ↔ (0 ≤ i ∧ i + 1 < (n : Int) ∧ k = i + 1) ∨ x = some (i, k)
section
variable {t : Tab} {n : Nat} {x : Option (Int × Int)}
/-- What the extra one is. -/
def Up (n : Nat) (x : Option (Int × Int)) : Prop := ∀ a b, x = some (a, b) → 0 ≤ a ∧ a < b ∧ b < (n : Int)
theorem EdgeT.inc (h : EdgeT t n x) (hx : Up n x) {i k : Int} (hk : k ∈ adj t i) : 0 ≤ i ∧ i < k ∧ k < (n : Int) := by
  rcases (h.2 i k).1 hk with ⟨h0, h1, rfl⟩ | e
  · omega
  · exact hx _ _ e
theorem EdgeT.rch_lt (h : EdgeT t n x) (hx : Up n x) {i k : Int} (hk : Rch (adj t) i k) : i < k := by
  induction hk with
  | one hk => exact (h.inc hx hk).2.1
  | step hk _ ih => have := (h.inc hx hk).2.1; omega
theorem EdgeT.fine (h : EdgeT t n x) (hx : Up n x) (i : Int) : Fine (adj t) i := ⟨fun hr => by have := h.rch_lt hx hr; omega, fun k _ hr => by have := h.rch_lt hx hr; omega⟩
theorem EdgeT.up (h : EdgeT t n x) {i : Int} (h0 : 0 ≤ i) : ∀ d : Nat, i + 1 + d < (n : Int) → Rch (adj t) i (i + 1 + d)
  | 0, hd => .one ((h.2 i _).2 (.inl ⟨h0, by omega, by omega⟩))
  | d + 1, hd => by
    have h1 := EdgeT.up h h0 d (by omega)
    exact h1.snoc ((h.2 _ _).2 (.inl ⟨by omega, by omega, by omega⟩))
theorem EdgeT.go (h : EdgeT t n x) {i k : Int} (h0 : 0 ≤ i) (hik : i < k) (hk : k < (n : Int)) : Rch (adj t) i k := by
  have := h.up h0 (k - i - 1).toNat (by omega)
  rwa [show i + 1 + ((k - i - 1).toNat : Nat) = k by omega] at this
theorem EdgeT.self_no (h : EdgeT t n x) (hx : Up n x) {l : List Int} (hl : SelfUpto t t.length l) : l = [] := by
  refine List.eq_nil_iff_forall_not_mem.2 fun k hk => ?_
  have := h.rch_lt hx ((hl.2 k).1 hk).2
  omega
/-- How deep, from where nothing goes back. -/
theorem EdgeT.dp_of (h : EdgeT t n x) (lo : Int) (h0 : 0 ≤ lo) (hx : ∀ a b, x = some (a, b) → a < lo ∨ (a < b ∧ b < (n : Int))) : ∀ d : Nat, ∀ i : Int, lo ≤ i → i + 1 + d = (n : Int) → dp t i = d := by
  have hstep : ∀ i k, lo ≤ i → k ∈ adj t i → i < k ∧ k < (n : Int) := fun i k hi hk => by
    rcases (h.2 i k).1 hk with ⟨_, h1, rfl⟩ | e
    · omega
    · rcases hx _ _ e with h1 | h1
      · omega
      · exact h1
  have hrc : ∀ i k, Rch (adj t) i k → lo ≤ i → i < k := fun i k hr => by
    induction hr with
    | one hk => intro hi; exact (hstep _ _ hi hk).1
    | step hk _ ih => intro hi; have := (hstep _ _ hi hk).1; have := ih (by omega); omega
  have hfine : ∀ i, lo ≤ i → Fine (adj t) i := fun i hi => ⟨fun hr => by have := hrc _ _ hr hi; omega, fun k hk hr => by have := hrc _ _ hk hi; have := hrc _ _ hr (by omega); omega⟩
  intro d
  induction d using Nat.strongRecOn with
  | ind d ih =>
    intro i hi hd
    have hin : 0 ≤ i ∧ i < (t.length : Int) := by rw [h.1]; omega
    rw [dp_next hin (hfine i hi)]
    apply Nat.le_antisymm
    · refine mxs_bound fun a ha => ?_
      obtain ⟨k, hk, rfl⟩ := List.mem_map.1 ha
      have h1 := hstep i k hi hk
      rw [ih (d - (k - i).toNat) (by omega) k (by omega) (by omega)]
      omega
    · by_cases hd0 : d = 0
      · omega
      · have hk : i + 1 ∈ adj t i := (h.2 i (i + 1)).2 (.inl ⟨by omega, by omega, rfl⟩)
        have := mxs_le (List.mem_map.2 ⟨i + 1, hk, rfl⟩ : dp t (i + 1) ∈ (adj t i).map (dp t))
        rw [ih (d - 1) (by omega) (i + 1) (by omega) (by omega)] at this
        omega
theorem EdgeT.dp_up (h : EdgeT t n x) (hx : Up n x) {i : Int} (h0 : 0 ≤ i) (hi : i < (n : Int)) : (dp t i : Int) = (n : Int) - 1 - i := by
  have := h.dp_of 0 (by omega) (fun a b e => .inr (by have := hx a b e; omega)) ((n : Int) - 1 - i).toNat i h0 (by omega)
  omega
theorem EdgeT.depth (h : EdgeT t n x) (hx : Up n x) {i d : Int} (hd : DepthIs t i d) : d = if 0 ≤ i ∧ i < (n : Int) then (n : Int) - 1 - i else -1 := by
  rcases hd with ⟨h1, rfl⟩ | ⟨h1, h2, rfl⟩ | ⟨h1, h2, rfl⟩
  · rw [h.1] at h1; rw [if_neg h1]
  · exact absurd (h.fine hx i) h2
  · rw [h.1] at h1; rw [if_pos h1]; exact h.dp_up hx h1.1 h1.2
/-- Round: just those between own themselves. -/
theorem EdgeT.self_iff {a b : Int} (h : EdgeT t n (some (a, b))) (hb : 0 ≤ b) (hba : b ≤ a) (ha : a < (n : Int)) {k : Int} (hk : 0 ≤ k ∧ k < (n : Int)) : Rch (adj t) k k ↔ b ≤ k ∧ k ≤ a := by
  have hab : b ∈ adj t a := (h.2 a b).2 (.inr rfl)
  constructor
  · intro hr
    refine Classical.byContradiction fun hn => ?_
    have : k < k := hr.closed (S := fun x => k < x) (fun x hx => by
      rcases (h.2 k x).1 hx with ⟨_, _, rfl⟩ | e
      · omega
      · cases e; omega) (fun x hx y hy => by
      rcases (h.2 x y).1 hy with ⟨_, _, rfl⟩ | e
      · omega
      · cases e; omega)
    omega
  · rintro ⟨h1, h2⟩
    have hka : k = a ∨ Rch (adj t) k a := by
      by_cases e : k = a
      · exact .inl e
      · exact .inr (h.go hk.1 (by omega) ha)
    have hkb : Rch (adj t) k b := by
      rcases hka with rfl | hr
      · exact .one hab
      · exact hr.snoc hab
    by_cases e : b = k
    · rwa [e] at hkb
    · exact hkb.trans (h.go hb (by omega) hk.2)
theorem EdgeT.round_list {a b : Int} (h : EdgeT t n (some (a, b))) (hb : 0 ≤ b) (hba : b ≤ a) (ha : a < (n : Int)) {l : List Int} (hl : SelfUpto t t.length l) : l = (List.range (a - b + 1).toNat).map fun i : Nat => b + (i : Int) := by
  refine hl.1.eq ?_ fun k => ?_
  · unfold Rising
    rw [List.pairwise_map]
    exact List.pairwise_lt_range.imp fun h => by omega
  · rw [hl.2, h.1, List.mem_map]
    constructor
    · rintro ⟨h1, h2⟩
      have := (h.self_iff hb hba ha h1).1 h2
      exact ⟨(k - b).toNat, List.mem_range.2 (by omega), by omega⟩
    · rintro ⟨i, hi, rfl⟩
      rw [List.mem_range] at hi
      have h1 : 0 ≤ b + (i : Int) ∧ b + (i : Int) < (n : Int) := by omega
      exact ⟨h1, (h.self_iff hb hba ha h1).2 (by omega)⟩
end
theorem chain_adj {n : Nat} {rd : Bool} {t : Tab} (h : ChainUpto n rd n t) {i k : Int} : k ∈ adj t i ↔ (0 ≤ i ∧ i < (n : Int)) ∧ (i + 1 < (n : Int) ∨ rd = true) ∧ k = (i + 1) % (n : Int) := by
  rw [mem_adj, h.1]
  by_cases hi : 0 ≤ i ∧ i < (n : Int)
  · obtain ⟨j, rfl⟩ : ∃ j : Nat, i = j := ⟨i.toNat, by omega⟩
    obtain ⟨nm, h1⟩ := h.2 j (by omega)
    rw [fieldsOf_at h1]
    have hmod : (((j + 1) % n : Nat) : Int) = ((j : Int) + 1) % (n : Int) := by push_cast; rfl
    have hb : ((j : Int) + 1) % (n : Int) < (n : Int) := Int.emod_lt_of_pos _ (by omega)
    have hb0 : 0 ≤ ((j : Int) + 1) % (n : Int) := Int.emod_nonneg _ (by omega)
    show _ ∧ (∃ f ∈ chF n rd j, _) ↔ _
    unfold chF
    by_cases hc : j + 1 < n ∨ rd = true
    · rw [if_pos hc]
      constructor
      · rintro ⟨_, f, hf, _, rfl⟩
        obtain rfl := List.mem_singleton.1 hf
        exact ⟨hi, hc.imp (fun h => by omega) id, hmod⟩
      · rintro ⟨_, _, rfl⟩
        refine ⟨⟨hb0, hb⟩, _, List.mem_singleton.2 rfl, rfl, hmod⟩
    · rw [if_neg hc]
      constructor
      · rintro ⟨_, f, hf, _⟩; cases hf
      · rintro ⟨_, h2, _⟩
        exact absurd (h2.imp (fun h => by omega) id) hc
  · constructor
    · rintro ⟨_, f, hf, _⟩
      unfold fieldsOf at hf
      split at hf
      · rw [List.getElem?_eq_none (by rw [h.1]; omega)] at hf
        cases hf
      · cases hf
    · rintro ⟨h1, _⟩; exact absurd h1 hi
theorem chain_edge {n : Nat} {t : Tab} (h : ChainUpto n false n t) : EdgeT t n none := by
  refine ⟨h.1, fun i k => ?_⟩
  rw [chain_adj h]
  constructor
  · rintro ⟨h1, h2, rfl⟩
    have h3 : i + 1 < (n : Int) := h2.resolve_right (by simp)
    exact .inl ⟨h1.1, h3, Int.emod_eq_of_lt (by omega) h3⟩
  · rintro (⟨h1, h2, rfl⟩ | e)
    · exact ⟨by omega, .inl h2, (Int.emod_eq_of_lt (by omega) h2).symm⟩
    · cases e
theorem chain_round {n : Nat} {t : Tab} (hn : 0 < n) (h : ChainUpto n true n t) : EdgeT t n (some ((n : Int) - 1, 0)) := by
  refine ⟨h.1, fun i k => ?_⟩
  rw [chain_adj h]
  constructor
  · rintro ⟨h1, _, rfl⟩
    by_cases h3 : i + 1 < (n : Int)
    · exact .inl ⟨h1.1, h3, Int.emod_eq_of_lt (by omega) h3⟩
    · right
      have : i = (n : Int) - 1 := by omega
      subst this
      rw [show (n : Int) - 1 + 1 = n by omega, Int.emod_self]
  · rintro (⟨h1, h2, rfl⟩ | e)
    · exact ⟨by omega, .inl h2, (Int.emod_eq_of_lt (by omega) h2).symm⟩
    · cases e
      refine ⟨by omega, .inr rfl, ?_⟩
      rw [show (n : Int) - 1 + 1 = n by omega, Int.emod_self]
end Go.Proofs.Ytojjjkeciiieeaa
