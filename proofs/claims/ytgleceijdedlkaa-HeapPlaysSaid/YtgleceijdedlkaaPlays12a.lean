/- SlabPlays: what the steps make of a slab and of the document's answer. -/
import Derived.Test.YtgleceijdedlkaaRef12c
namespace Go.Proofs.Ytgleceijdedlkaa
set_option linter.unusedSectionVars false
set_option linter.unusedVariables false
set_option linter.unusedSimpArgs false
open Go.RowKit
/-- Both tell the same. -/
structure Ps (n : Nat) (room used : Int) (sl l : List (Int × List UInt8)) : Prop where
  perm : sl.Perm l
  sorted : l.Pairwise (fun p q => p.1 < q.1)
  pos : ∀ q ∈ l, 0 ≤ q.1
  use : used = usedOf l
  le : used ≤ room
  small : ∀ q ∈ l, okc (q.2.length : Int) = true
  len : l.length ≤ n
section
variable {n : Nat} {room used : Int} {sl l : List (Int × List UInt8)}
theorem usedOf_perm {a b : List (Int × List UInt8)} (h : a.Perm b) : usedOf a = usedOf b := by
  unfold usedOf
  induction h with
  | nil => rfl
  | cons x _ ih => simp [ih]
  | swap x y l => simp; omega
  | trans _ _ h1 h2 => rw [h1, h2]
theorem Ps.start (room : Int) (h : 0 ≤ room) : Ps 0 room 0 [] [] := ⟨List.Perm.nil, List.Pairwise.nil, by simp, by simp [usedOf], h, by simp, by simp⟩
theorem Ps.more (h : Ps n room used sl l) : Ps (n + 1) room used sl l := { h with len := by have := h.len; omega }
theorem Ps.nd (h : Ps n room used sl l) : (l.map (·.1)).Nodup := by
  rw [List.Nodup, List.pairwise_map]
  exact h.sorted.imp fun hlt e => by omega
theorem Ps.nds (h : Ps n room used sl l) : (sl.map (·.1)).Nodup := (h.perm.map _).nodup_iff.2 h.nd
theorem Ps.slen (h : Ps n room used sl l) : sl.length = l.length := h.perm.length_eq
theorem Ps.lo (h : Ps n room used sl l) : 0 ≤ used := h.use ▸ usedOf_nonneg l
theorem Ps.bd (h : Ps n room used sl l) {q : Int × List UInt8} (hq : q ∈ l) : 1 ≤ q.2.length ∧ q.2.length ≤ 128 := by
  have := h.small q hq
  simp [okc] at this
  omega
theorem Ps.get (h : Ps n room used sl l) (s : Int) : aget sl s = aget l s := by
  cases e : aget l s with
  | none =>
    rw [aget_none_iff] at e ⊢
    exact fun hm => e (((h.perm.map _).mem_iff).1 hm)
  | some v => exact aget_of_mem h.nds (h.perm.mem_iff.2 (aget_mem e))
theorem Ps.at_ (h : Ps n room used sl l) (s : Int) : (aget sl s = none ∧ posT l s = -1) ∨ ∃ (i : Nat) (q : Int × List UInt8), aget sl s = some q.2 ∧ posT l s = (i : Int) ∧ l[i]? = some q ∧ q.1 = s := by
  rcases posT_cases (l := l) (s := s) with ⟨ha, hn⟩ | ⟨i, q, ha, hq, hqs⟩
  · refine .inl ⟨?_, ha⟩
    rw [h.get, aget_none_iff]
    intro hm
    obtain ⟨q, hq, e⟩ := List.mem_map.1 hm
    exact hn q hq e
  · refine .inr ⟨i, q, ?_, ha, hq, hqs⟩
    rw [h.get, ← hqs]
    exact aget_of_mem h.nd (List.mem_of_getElem? hq)
theorem Ps.keys (h : Ps n room used sl l) : keysOf sl = l.map (·.1) := by
  have hs1 : (keysOf sl).Pairwise (fun a b => a ≤ b) := by
    have := List.pairwise_mergeSort (le := leI) (fun a b c h1 h2 => by simp only [leI, decide_eq_true_eq] at *; omega) (fun a b => by simp only [leI, Bool.or_eq_true, decide_eq_true_eq]; omega) (sl.map (·.1))
    exact this.imp fun h => by simpa [leI] using h
  have hs2 : (l.map (·.1)).Pairwise (fun a b => a ≤ b) := by
    rw [List.pairwise_map]
    exact h.sorted.imp fun h => by omega
  have hp : (keysOf sl).Perm (l.map (·.1)) := (List.mergeSort_perm _ _).trans (h.perm.map _)
  exact List.Perm.eq_of_pairwise (le := fun a b : Int => a ≤ b) (fun a b _ _ h1 h2 => by omega) hs1 hs2 hp
theorem low_sorted : ∀ (l : List (Int × List UInt8)) (k : Nat), l.Pairwise (fun p q => p.1 < q.1) → (∀ j, j < k → ∀ p, l[j]? = some p → p.1 = (j : Int)) → k ≤ l.length → (∀ q ∈ l, 0 ≤ q.1) → ∀ j p, k ≤ j → l[j]? = some p → (k : Int) ≤ p.1 := by
  intro l k hs hk hkl hp j p hj hjp
  have hjl := (List.getElem?_eq_some_iff.1 hjp).1
  cases k with
  | zero => exact hp p (List.mem_of_getElem? hjp)
  | succ m =>
    have hm : l[m]? = some l[m] := List.getElem?_eq_getElem (by omega)
    have e := hk m (by omega) _ hm
    have := List.pairwise_iff_getElem.1 hs m j (by omega) hjl (by omega)
    rw [(List.getElem?_eq_some_iff.1 hjp).2] at this
    omega
theorem InsT.low (h : Ps n room used sl l) {k : Nat} (hk : InsT l k) : (∀ j : Nat, j < k → (j : Int) ∈ l.map (·.1)) ∧ (k : Int) ∉ l.map (·.1) ∧ (∀ q ∈ l.take k, q.1 < (k : Int)) ∧ ∀ q ∈ l.drop k, (k : Int) < q.1 := by
  obtain ⟨k1, k2, k3⟩ := hk
  have hdr : ∀ q ∈ l.drop k, (k : Int) < q.1 := by
    intro q hq
    obtain ⟨j, hj⟩ := List.mem_iff_getElem?.1 hq
    rw [List.getElem?_drop] at hj
    have h1 := low_sorted l k h.sorted k2 k1 h.pos (k + j) q (by omega) hj
    by_cases e : j = 0
    · subst e
      have := k3 q (by simpa using hj)
      omega
    · have hjl := (List.getElem?_eq_some_iff.1 hj).1
      have hm : l[k]? = some l[k] := List.getElem?_eq_getElem (by omega)
      have h2 := low_sorted l k h.sorted k2 k1 h.pos k _ (Nat.le_refl _) hm
      have := List.pairwise_iff_getElem.1 h.sorted k (k + j) (by omega) hjl (by omega)
      rw [(List.getElem?_eq_some_iff.1 hj).2] at this
      omega
  have htk : ∀ q ∈ l.take k, q.1 < (k : Int) := by
    intro q hq
    obtain ⟨j, hj⟩ := List.mem_iff_getElem?.1 hq
    rw [List.getElem?_take] at hj
    split at hj
    · have := k2 j (by omega) q hj
      omega
    · cases hj
  refine ⟨fun j hj => ?_, fun hm => ?_, htk, hdr⟩
  · have hm : l[j]? = some l[j] := List.getElem?_eq_getElem (by omega)
    exact List.mem_map.2 ⟨_, List.mem_of_getElem? hm, k2 j hj _ hm⟩
  · obtain ⟨q, hq, e⟩ := List.mem_map.1 hm
    have : q ∈ l.take k ∨ q ∈ l.drop k := by
      rw [← List.mem_append, List.take_append_drop]
      exact hq
    rcases this with hq | hq
    · have := htk q hq; omega
    · have := hdr q hq; omega
theorem Ps.same (h : Ps n room used sl l) {k m : Nat} (hk : InsT l k) (h1 : ∀ j : Nat, j < m → (j : Int) ∈ sl.map (·.1)) (h2 : (m : Int) ∉ sl.map (·.1)) : k = m := by
  obtain ⟨g1, g2, -, -⟩ := hk.low h
  have hp := fun x => (h.perm.map (·.1)).mem_iff (a := x)
  by_cases e1 : k < m
  · exact absurd ((hp _).1 (h1 k e1)) g2
  · by_cases e2 : m < k
    · exact absurd ((hp _).2 (g1 m e2)) h2
    · omega
theorem Ps.take (h : Ps n room used sl l) {k : Nat} (hk : InsT l k) (bs : List UInt8) (hb : okc (bs.length : Int) = true) (hr : used + cls bs.length ≤ room) :
    Ps (n + 1) room (used + cls bs.length) (sl ++ [((k : Int), bs)]) (l.take k ++ ((k : Int), bs) :: l.drop k) := by
  obtain ⟨g1, g2, g3, g4⟩ := hk.low h
  have hp : (sl ++ [((k : Int), bs)]).Perm (l.take k ++ ((k : Int), bs) :: l.drop k) := by
    refine List.perm_append_comm.trans ?_
    refine List.Perm.trans ?_ List.perm_middle.symm
    rw [List.take_append_drop]
    exact List.Perm.cons _ h.perm
  have hmem : ∀ q, q ∈ l.take k ++ ((k : Int), bs) :: l.drop k ↔ q = ((k : Int), bs) ∨ q ∈ l := fun q => by
    have e : q ∈ l ↔ q ∈ l.take k ∨ q ∈ l.drop k := by
      conv => lhs; rw [← List.take_append_drop k l]
      exact List.mem_append
    rw [List.mem_append, List.mem_cons, e]
    constructor
    · rintro (h | h | h)
      · exact .inr (.inl h)
      · exact .inl h
      · exact .inr (.inr h)
    · rintro (h | h | h)
      · exact .inr (.inl h)
      · exact .inl h
      · exact .inr (.inr h)
  refine ⟨hp, ?_, fun q hq => ?_, ?_, hr, fun q hq => ?_, ?_⟩
  · rw [List.pairwise_append]
    refine ⟨h.sorted.sublist (List.take_sublist k l), List.pairwise_cons.2 ⟨fun q hq => g4 q hq, h.sorted.sublist (List.drop_sublist k l)⟩, fun a ha b hb => ?_⟩
    have h1 := g3 a ha
    rcases List.mem_cons.1 hb with rfl | hb
    · exact h1
    · have := g4 b hb
      omega
  · rcases (hmem q).1 hq with rfl | hq
    · exact Int.natCast_nonneg _
    · exact h.pos q hq
  · rw [← usedOf_perm hp, usedOf_snoc, usedOf_perm h.perm, h.use]
  · rcases (hmem q).1 hq with rfl | hq
    · exact hb
    · exact h.small q hq
  · have := h.len
    simp
    omega
theorem Ps.give (h : Ps n room used sl l) {i : Nat} {q : Int × List UInt8} (hq : l[i]? = some q) : Ps n room (used - cls q.2.length) (adel sl q.1) (l.take i ++ l.drop (i + 1)) := by
  have e : l.take i ++ l.drop (i + 1) = l.eraseIdx i := (List.eraseIdx_eq_take_drop_succ l i).symm
  have e2 : l.eraseIdx i = adel l q.1 := (adel_at h.nd (u := q.2) hq).symm
  have hsub : (l.eraseIdx i).Sublist l := List.eraseIdx_sublist l i
  have hil := (List.getElem?_eq_some_iff.1 hq).1
  have hsplit : l = l.take i ++ q :: l.drop (i + 1) := by
    conv => lhs; rw [← List.take_append_drop i l, List.drop_eq_getElem_cons hil, (List.getElem?_eq_some_iff.1 hq).2]
  have hu : usedOf l = usedOf (l.eraseIdx i) + cls q.2.length := by
    have hp : l.Perm (l.eraseIdx i ++ [q]) := by
      conv => lhs; rw [hsplit]
      refine List.perm_middle.trans ?_
      rw [← e]
      exact (List.perm_append_comm (l₁ := [q])).trans (List.Perm.refl _)
    rw [usedOf_perm hp]
    exact usedOf_snoc _ q.1 q.2
  have h0 := cls_pos q.2.length
  have hle := h.le
  have huse := h.use
  rw [e]
  refine ⟨?_, h.sorted.sublist hsub, fun p hp => h.pos p (hsub.subset hp), by omega, by omega, fun p hp => h.small p (hsub.subset hp), Nat.le_trans hsub.length_le h.len⟩
  rw [e2]
  exact h.perm.filter _
theorem Ps.write (h : Ps n room used sl l) {i : Nat} {q : Int × List UInt8} (hq : l[i]? = some q) (bs : List UInt8) (hl : bs.length = q.2.length) : Ps n room used (aput sl q.1 bs) (l.set i (q.1, bs)) := by
  have hil := (List.getElem?_eq_some_iff.1 hq).1
  have hmm := List.mem_of_getElem? hq
  have hms : (q.1, q.2) ∈ sl := h.perm.mem_iff.2 hmm
  have key : ∀ m : List (Int × List UInt8), (m.map (·.1)).Nodup → (q.1, q.2) ∈ m → aput m q.1 bs = m.map fun p => if p.1 = q.1 then (p.1, bs) else p := by
    intro m hn hm
    obtain ⟨j, hj⟩ := List.mem_iff_getElem?.1 hm
    rw [aput_at hn bs hj]
    apply List.ext_getElem?
    intro x
    have hjl := (List.getElem?_eq_some_iff.1 hj).1
    rw [List.getElem?_set, List.getElem?_map]
    by_cases e : j = x
    · subst e
      rw [if_pos rfl, if_pos hjl, hj]
      simp
    · rw [if_neg e]
      cases hx : m[x]? with
      | none => rfl
      | some p =>
        simp only [Option.map_some]
        rw [if_neg]
        intro e2
        have h1 : (m.map (·.1))[j]? = (m.map (·.1))[x]? := by rw [List.getElem?_map, List.getElem?_map, hj, hx]; simp [e2]
        have h2 : j < (m.map (·.1)).length := by simpa using hjl
        exact e ((List.getElem?_inj h2 hn).1 h1)
  have e1 : l.set i (q.1, bs) = aput l q.1 bs := (aput_at h.nd bs (u := q.2) hq).symm
  have hf : ∀ p ∈ l, ((if p.1 = q.1 then (p.1, bs) else p : Int × List UInt8).1 = p.1) ∧ (if p.1 = q.1 then (p.1, bs) else p : Int × List UInt8).2.length = p.2.length := by
    intro p hp
    split
    · rename_i e
      have : p = q := inj_of_nodup h.nd hp hmm e
      subst this
      exact ⟨rfl, hl⟩
    · exact ⟨rfl, rfl⟩
  rw [e1, key sl h.nds hms, key l h.nd hmm]
  refine ⟨h.perm.map _, ?_, fun p hp => ?_, ?_, h.le, fun p hp => ?_, by simpa using h.len⟩
  · rw [List.pairwise_map]
    exact h.sorted.imp_of_mem fun ha hb hab => by rw [(hf _ ha).1, (hf _ hb).1]; exact hab
  · obtain ⟨p0, hp0, rfl⟩ := List.mem_map.1 hp
    rw [(hf p0 hp0).1]
    exact h.pos p0 hp0
  · rw [h.use]
    unfold usedOf
    rw [List.map_map]
    congr 1
    apply List.map_congr_left
    intro p hp
    simp only [Function.comp_def]
    rw [(hf p hp).2]
  · obtain ⟨p0, hp0, rfl⟩ := List.mem_map.1 hp
    rw [(hf p0 hp0).2]
    exact h.small p0 hp0
end
end Go.Proofs.Ytgleceijdedlkaa
