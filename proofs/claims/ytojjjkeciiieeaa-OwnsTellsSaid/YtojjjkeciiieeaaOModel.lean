/- Types that hold others: tables in plain words. -/
import Derived.Test.YtojjjkeciiieeaaGraph
import Derived.Lib.SlicesCompact
namespace Go.Proofs.Ytojjjkeciiieeaa
set_option linter.unusedVariables false
set_option linter.unusedSimpArgs false
structure Fld where
  name : ByteArray
  kind : Int
  pos : Int
  of : Int
  node : Int
structure Ty where
  name : ByteArray
  size : Int
  fs : List Fld
abbrev Tab := List Ty
def okk (k : Int) : Bool := (k == 1) || (k == 2) || (k == 4)
def fieldsOf (t : Tab) (i : Int) : List Fld := if 0 ≤ i then (t[i.toNat]?.map (·.fs)).getD [] else []
def holdsB (fs : List Fld) (k : Int) : Bool := fs.any fun f => okk f.kind && f.of == k
/-- Whom a type holds, by rising places. -/
def adj (t : Tab) (i : Int) : List Int := ((List.range t.length).map fun k : Nat => (k : Int)).filter (holdsB (fieldsOf t i))
/-- As they stand. -/
def heldL (n : Nat) (fs : List Fld) : List Int := (fs.filter fun f => okk f.kind && decide (0 ≤ f.of ∧ f.of < (n : Int))).map (·.of)
theorem mem_adj {t : Tab} {i k : Int} : k ∈ adj t i ↔ (0 ≤ k ∧ k < (t.length : Int)) ∧ ∃ f ∈ fieldsOf t i, okk f.kind = true ∧ f.of = k := by
  unfold adj holdsB
  rw [List.mem_filter, List.mem_map, List.any_eq_true]
  constructor
  · rintro ⟨⟨j, hj, rfl⟩, f, hf, h⟩
    rw [List.mem_range] at hj
    simp only [Bool.and_eq_true, beq_iff_eq] at h
    exact ⟨⟨by omega, by omega⟩, f, hf, h.1, h.2⟩
  · rintro ⟨⟨h0, h1⟩, f, hf, h2, h3⟩
    exact ⟨⟨k.toNat, List.mem_range.2 (by omega), by omega⟩, f, hf, by simp [h2, h3]⟩
theorem mem_held {n : Nat} {fs : List Fld} {k : Int} : k ∈ heldL n fs ↔ (0 ≤ k ∧ k < (n : Int)) ∧ ∃ f ∈ fs, okk f.kind = true ∧ f.of = k := by
  unfold heldL
  rw [List.mem_map]
  constructor
  · rintro ⟨f, hf, rfl⟩
    rw [List.mem_filter] at hf
    simp only [Bool.and_eq_true, decide_eq_true_eq] at hf
    exact ⟨hf.2.2, f, hf.1, hf.2.1, rfl⟩
  · rintro ⟨h0, f, hf, h2, rfl⟩
    exact ⟨f, List.mem_filter.2 ⟨hf, by simp [h2, h0]⟩, rfl⟩
/-- By rising numbers, each once. -/
def Rising (l : List Int) : Prop := l.Pairwise (· < ·)
theorem adj_rising (t : Tab) (i : Int) : Rising (adj t i) := by
  unfold adj Rising
  refine List.Pairwise.filter _ ?_
  rw [List.pairwise_map]
  exact List.pairwise_lt_range.imp fun h => by omega
theorem Rising.nodup {l : List Int} (h : Rising l) : l.Nodup := h.imp fun h e => by omega
theorem Rising.eq {l m : List Int} (hl : Rising l) (hm : Rising m) (h : ∀ x, x ∈ l ↔ x ∈ m) : l = m := by
  have hp : l.Perm m := (List.perm_ext_iff_of_nodup hl.nodup hm.nodup).2 h
  exact hp.eq_of_pairwise (le := (· < ·)) (fun a b _ _ h1 h2 => by omega) hl hm
theorem Rising.bound {l : List Int} (h : Rising l) {n : Nat} (hr : ∀ x ∈ l, 0 ≤ x ∧ x < n) : l.length ≤ n := nodup_range h.nodup hr
theorem adj_within (t : Tab) : Within (adj t) t.length := fun i k h => (mem_adj.1 h).1
theorem adj_out {t : Tab} {i : Int} (h : ¬ (0 ≤ i ∧ i < (t.length : Int))) : adj t i = [] := by
  refine List.eq_nil_iff_forall_not_mem.2 fun k hk => ?_
  obtain ⟨_, f, hf, _⟩ := mem_adj.1 hk
  unfold fieldsOf at hf
  split at hf
  · rw [List.getElem?_eq_none (by omega)] at hf
    cases hf
  · cases hf
open Go.Lib in
theorem compact_rising {l : List Int} (h : l.Pairwise (· ≤ ·)) : Rising (compact l) ∧ ∀ x, x ∈ compact l ↔ x ∈ l := by
  have key : ∀ m, m ≤ l.length → Rising (compactUpTo l.toArray m) ∧ ∀ x, x ∈ compactUpTo l.toArray m ↔ ∃ j, j < m ∧ l.toArray[j]! = x := by
    intro m
    induction m with
    | zero => intro _; exact ⟨List.Pairwise.nil, fun x => ⟨fun h => (by cases h), fun ⟨j, hj, _⟩ => (by omega)⟩⟩
    | succ m ih =>
      intro hm
      obtain ⟨h1, h2⟩ := ih (by omega)
      rw [compactUpTo_succ]
      have hle : ∀ i j, i < j → j < l.length → l.toArray[i]! ≤ l.toArray[j]! := fun i j hij hj => by
        have := List.pairwise_iff_getElem.1 h i j (by omega) hj hij
        simpa [getElem!_pos, show i < l.length by omega, hj] using this
      by_cases hk : keeps l.toArray m = true
      · rw [if_pos hk]
        refine ⟨?_, fun x => ?_⟩
        · refine List.pairwise_append.2 ⟨h1, List.pairwise_singleton _ _, fun a ha b hb => ?_⟩
          obtain ⟨j, hj, rfl⟩ := (h2 a).1 ha
          obtain rfl := List.mem_singleton.1 hb
          have hne : m = 0 ∨ l.toArray[m]! ≠ l.toArray[m - 1]! := of_decide_eq_true hk
          have hne' := hne.resolve_left (by omega)
          have e1 := hle (m - 1) m (by omega) (by omega)
          by_cases e : j = m - 1
          · subst e; omega
          · have e2 := hle j (m - 1) (by omega) (by omega)
            omega
        · rw [List.mem_append, List.mem_singleton, h2]
          constructor
          · rintro (⟨j, hj, e⟩ | rfl)
            · exact ⟨j, by omega, e⟩
            · exact ⟨m, by omega, rfl⟩
          · rintro ⟨j, hj, e⟩
            by_cases e2 : j = m
            · subst e2; exact .inr e.symm
            · exact .inl ⟨j, by omega, e⟩
      · rw [if_neg hk, List.append_nil]
        refine ⟨h1, fun x => ?_⟩
        rw [h2]
        have hne : ¬ (m = 0 ∨ l.toArray[m]! ≠ l.toArray[m - 1]!) := fun h => hk (decide_eq_true h)
        have h0 : m ≠ 0 := fun e => hne (.inl e)
        have heq : l.toArray[m]! = l.toArray[m - 1]! := Classical.byContradiction fun e => hne (.inr e)
        constructor
        · rintro ⟨j, hj, e⟩
          exact ⟨j, by omega, e⟩
        · rintro ⟨j, hj, e⟩
          by_cases e2 : j = m
          · subst e2; exact ⟨j - 1, by omega, by rw [← e, heq]⟩
          · exact ⟨j, by omega, e⟩
  obtain ⟨h1, h2⟩ := key l.length (Nat.le_refl _)
  refine ⟨h1, fun x => ?_⟩
  show x ∈ compactUpTo l.toArray l.length ↔ _
  rw [h2]
  constructor
  · rintro ⟨j, hj, rfl⟩
    simp [getElem!_pos, hj]
  · intro hx
    obtain ⟨j, hj, rfl⟩ := List.mem_iff_getElem.1 hx
    exact ⟨j, hj, by simp [getElem!_pos, hj]⟩
/-- Sorted, and each once: whom a type holds. -/
theorem adj_eq (t : Tab) (i : Int) {l : List Int} (hs : l.Pairwise (· ≤ ·)) (hp : l.Perm (heldL t.length (fieldsOf t i))) : Go.Lib.compact l = adj t i := by
  refine (compact_rising hs).1.eq (adj_rising t i) fun x => ?_
  rw [(compact_rising hs).2, hp.mem_iff, mem_held, mem_adj]
end Go.Proofs.Ytojjjkeciiieeaa
