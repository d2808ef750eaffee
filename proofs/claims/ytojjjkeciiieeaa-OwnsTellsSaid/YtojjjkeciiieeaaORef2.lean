/- owns: the document's reach. -/
import Derived.Test.YtojjjkeciiieeaaORef1
import Derived.Test.YtojjjkeciiieeaaOMark
import Derived.Test.YtojjjkeciiieeaaOFew
namespace Go.Proofs.Ytojjjkeciiieeaa
open Go.RowKit
set_option linter.unusedVariables false
set_option linter.unusedSimpArgs false
set_option linter.unusedSectionVars false
def encB (b : Bool) : List Value := [.bool b]
theorem flatten_set1 (x : Value) : ∀ {l : List (List Value)}, (∀ r ∈ l, r.length = 1) → ∀ {i : Nat}, i < l.length → (l.set i [x]).flatten = l.flatten.set i x
  | [], _, i, h => by simp at h
  | r :: l, h, 0, _ => by
    have hr : r.length = 1 := h r (by simp)
    obtain ⟨a, rfl⟩ : ∃ a, r = [a] := by
      match r, hr with
      | [a], _ => exact ⟨a, rfl⟩
    simp
  | r :: l, h, i + 1, hi => by
    have hr : r.length = 1 := h r (by simp)
    obtain ⟨a, rfl⟩ : ∃ a, r = [a] := by
      match r, hr with
      | [a], _ => exact ⟨a, rfl⟩
    have := flatten_set1 x (l := l) (fun r hr => h r (by simp [hr])) (i := i) (by simpa using hi)
    simp only [List.set_cons_succ, List.flatten_cons, this, List.cons_append, List.nil_append]
theorem rowR_set1 {e : TypeId} {w : World} {N : Nat → Prop} {b off n c : Nat} {l : List (List Value)} (h : rowR e 1 (.slice (some ⟨b, off, none⟩) n c) l w N) {i : Nat} (hi : i < l.length) (x : Value) :
    off = 0 ∧ N b ∧ (∀ o, w.frozen? ⟨b, o, none⟩ = false) ∧ rowR e 1 (.slice (some ⟨b, off, none⟩) n c) (l.set i [x]) (w.setCell ⟨b, off + i, none⟩ x) N := by
  obtain ⟨h1, h2, h3⟩ := h
  have hN := h3 b rfl
  rcases h1.2 with ⟨e0, _⟩ | ⟨g, cap, cur, e0, _, hg, hc, hm, hcs, ht⟩
  · cases e0
  · cases e0
    refine ⟨rfl, hN, fun o => frozen_of hg o, ⟨⟨?_, .inr ⟨b, c, cur.setIfInBounds (0 + i) x, by simp, Nat.zero_le _, ?_, by simpa using hc, hm, ?_, ?_⟩⟩, fun r hr => ?_, h3⟩⟩
    · rw [flatten_len (k := 1)]
      intro r hr
      rcases List.mem_or_eq_of_mem_set hr with hr | rfl
      · exact h2 r hr
      · rfl
    · exact heap_setCell_same hg (0 + i) x
    · simp [hcs]
    · rw [flatten_set1 x h2 hi, ← ht]
      simp [List.take_set]
    · rcases List.mem_or_eq_of_mem_set hr with hr | rfl
      · exact h2 r hr
      · rfl
theorem SepK.set1 {w0 w : World} {K : List (Nat × Obj)} {T : Res} [Good T] {e : TypeId} {b off n c : Nat} {l : List (List Value)} (H : SepK w0 w K (star (rowR e 1 (.slice (some ⟨b, off, none⟩) n c) l) T)) {i : Nat} (hi : i < l.length) (x : Value) :
    SepK w0 (w.setCell ⟨b, off + i, none⟩ x) K (star (rowR e 1 (.slice (some ⟨b, off, none⟩) n c) (l.set i [x])) T) :=
  H.step fun N hR hN => by
    obtain ⟨-, hb, -, hs⟩ := rowR_set1 hR hi x
    exact ⟨hs, .of1 ((Upd.refl [b] w).setCell _ _ (.inl (by simp))) hb⟩
theorem SepK.free1 {w0 w : World} {K : List (Nat × Obj)} {T : Res} [Good T] {e : TypeId} {b off n c : Nat} {l : List (List Value)} (H : SepK w0 w K (star (rowR e 1 (.slice (some ⟨b, off, none⟩) n c) l) T)) {i : Nat} (hi : i < l.length) : off = 0 ∧ (∀ o, w.frozen? ⟨b, o, none⟩ = false) ∧ b < w.heap.size := by
  obtain ⟨N, hN⟩ := H.get
  obtain ⟨h1, h2, h3, h4⟩ := rowR_set1 hN hi (.int .i64 0)
  exact ⟨h1, h3, ownsRow_lt hN.1 rfl⟩
theorem made_one (a : Value) (m : Nat) : (madeCells #[a] (m * 1)).toList = (List.replicate m [a]).flatten := by
  have e : (List.replicate m [a]).flatten = List.replicate m a := by
    induction m with
    | zero => rfl
    | succ m ih => rw [List.replicate_succ, List.flatten_cons, ih]; rfl
  rw [e]
  apply List.ext_getElem?
  intro j
  by_cases hj : j < m
  · rw [List.getElem?_replicate, if_pos hj]; simp [madeCells, hj, Nat.mod_one]
  · rw [List.getElem?_replicate, if_neg hj, List.getElem?_eq_none (by simp [madeCells]; omega)]
theorem info4 : (Try.prog.info? 4).map (fun i => (i.zero, i.size, i.bytes)) = some (some (.bool false), 1, 1) := by kernel_rfl
theorem SepK.bools {w0 w : World} {K : List (Nat × Obj)} {T : Res} [Good T] (H : SepK w0 w K T) (m : Nat) (hm : m ≤ 1000) : SepK w0 (w.alloc (.cells (madeCells #[.bool false] (m * 1)) 4)) K (star (rowR 4 1 (.slice (some ⟨w.heap.size, 0, none⟩) m m) ((List.replicate m false).map encB)) T) := by
  have el : ((List.replicate m false).map encB) = List.replicate m [.bool false] := by rw [List.map_replicate]; rfl
  rw [el]
  refine H.more ((Upd.refl [] w).alloc _) (M := fun b => b = w.heap.size) ?_ (fun b hb => by omega)
  refine ⟨⟨?_, .inr ⟨w.heap.size, m, _, by rw [List.length_replicate], Nat.zero_le _, heap_alloc_new _ _, by rw [List.length_replicate]; exact Nat.le_refl _, by unfold maxLen; omega, by simp [madeCells], ?_⟩⟩, fun r hr => by rw [List.eq_of_mem_replicate hr]; rfl, fun g hg => by cases hg; rfl⟩
  · rw [flatten_len (k := 1) (fun r hr => by rw [List.eq_of_mem_replicate hr]; rfl)]
  · rw [List.length_replicate, made_one, List.take_of_length_le (by simp)]
end Go.Proofs.Ytojjjkeciiieeaa
