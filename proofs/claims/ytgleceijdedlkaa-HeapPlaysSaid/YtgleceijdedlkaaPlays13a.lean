/- HandlePlays: what the steps make of a table and of the document's answer. -/
import Derived.Test.YtgleceijdedlkaaRef13d
namespace Go.Proofs.Ytgleceijdedlkaa
set_option linter.unusedSectionVars false
set_option linter.unusedVariables false
set_option linter.unusedSimpArgs false
open Go.RowKit
set_option linter.unusedVariables false
set_option linter.unusedSimpArgs false
/-- Both tell the same. -/
structure Pl (n : Nat) (L : Lasts) (V : Lives) (l : List (Int × Int)) : Prop where
  sorted : l.Pairwise (fun p q => p.1 < q.1)
  mem : ∀ q, q ∈ l ↔ aget V q.1 = some q
  key : ∀ s h, aget V s = some h → h.1 = s
  len : l.length ≤ n
  vlen : V.length ≤ n
  llen : L.length ≤ n
section
variable {n : Nat} {L : Lasts} {V : Lives} {l : List (Int × Int)}
theorem Pl.start : Pl 0 [] [] [] := ⟨List.Pairwise.nil, fun q => by simp [aget], fun s h e => (by cases e), by simp, by simp, by simp⟩
theorem Pl.more (h : Pl n L V l) : Pl (n + 1) L V l := { h with len := by have := h.len; omega, vlen := by have := h.vlen; omega, llen := by have := h.llen; omega }
theorem Pl.nd (h : Pl n L V l) : (l.map (·.1)).Nodup := by
  rw [List.Nodup, List.pairwise_map]
  exact h.sorted.imp fun hlt e => by omega
theorem Pl.nd2 (h : Pl n L V l) : l.Nodup := h.sorted.imp fun hlt e => by subst e; omega
theorem Pl.at_ (h : Pl n L V l) (s : Int) : (aget V s = none ∧ atI l s = -1) ∨ ∃ (i : Nat) (q : Int × Int), aget V s = some q ∧ atI l s = (i : Int) ∧ l[i]? = some q ∧ q.1 = s := by
  rcases atI_cases (l := l) (s := s) with ⟨ha, hn⟩ | ⟨i, q, ha, hq, hqs⟩
  · refine .inl ⟨?_, ha⟩
    cases hv : aget V s with
    | none => rfl
    | some q =>
      have hk := h.key s q hv
      exact absurd hk (hn q ((h.mem q).2 (by rw [hk]; exact hv)))
  · refine .inr ⟨i, q, ?_, ha, hq, hqs⟩
    have := (h.mem q).1 (List.mem_of_getElem? hq)
    rwa [hqs] at this
theorem Pl.live (h : Pl n L V l) (hnd : (V.map (·.1)).Nodup) : liveOf V = l := by
  have hk : keysOf V = l.map (·.1) := by
    have hs1 : (keysOf V).Pairwise (fun a b => a ≤ b) := by
      have := List.pairwise_mergeSort (le := leI) (fun a b c h1 h2 => by simp only [leI, decide_eq_true_eq] at *; omega) (fun a b => by simp only [leI, Bool.or_eq_true, decide_eq_true_eq]; omega) (V.map (·.1))
      exact this.imp fun h => by simpa [leI] using h
    have hs2 : (l.map (·.1)).Pairwise (fun a b => a ≤ b) := by
      rw [List.pairwise_map]
      exact h.sorted.imp fun h => by omega
    have hp : (keysOf V).Perm (l.map (·.1)) := by
      refine (List.mergeSort_perm _ _).trans ((List.perm_ext_iff_of_nodup hnd h.nd).2 fun x => ?_)
      constructor
      · intro hx
        obtain ⟨p, hp, rfl⟩ := List.mem_map.1 hx
        have ha := aget_of_mem hnd hp
        have hk := h.key p.1 p.2 ha
        exact List.mem_map.2 ⟨p.2, (h.mem p.2).2 (by rw [hk]; exact ha), hk⟩
      · intro hx
        obtain ⟨q, hq, rfl⟩ := List.mem_map.1 hx
        exact List.mem_map.2 ⟨_, aget_mem ((h.mem q).1 hq), rfl⟩
    exact List.Perm.eq_of_pairwise (le := fun a b : Int => a ≤ b) (fun a b _ _ h1 h2 => by omega) hs1 hs2 hp
  unfold liveOf
  rw [hk, List.map_map]
  have : ∀ q ∈ l, ((fun s => (aget V s).getD (0, 0)) ∘ fun x => x.1) q = id q := fun q hq => by
    simp only [Function.comp_def, id]
    rw [(h.mem q).1 hq]
    rfl
  rw [List.map_congr_left this, List.map_id]
theorem Pl.made (h : Pl n L V l) (s : Int) (hv : aget V s = none) (k : Nat) (hk : InsAt l s k) : Pl (n + 1) (aput L s (genOf L s)) (aput V s (s, genOf L s)) (l.take k ++ (s, genOf L s) :: l.drop k) := by
  obtain ⟨k1, k2, k3⟩ := hk
  have hns : ∀ q ∈ l, q.1 ≠ s := fun q hq e => by
    have := (h.mem q).1 hq
    rw [e, hv] at this
    cases this
  have hlt : ∀ q ∈ l.take k, q.1 < s := fun q hq => by
    obtain ⟨j, hj⟩ := List.mem_iff_getElem?.1 hq
    rw [List.getElem?_take] at hj
    split at hj
    · exact k2 j (by omega) q hj
    · cases hj
  have hgt : ∀ q ∈ l.drop k, s < q.1 := by
    have hsd : (l.drop k).Pairwise (fun p q => p.1 < q.1) := h.sorted.sublist (List.drop_sublist k l)
    have hhd : ∀ p, (l.drop k)[0]? = some p → s < p.1 := fun p hp => by
      rw [List.getElem?_drop] at hp
      have h1 := k3 p (by simpa using hp)
      have h2 := hns p (List.mem_of_getElem? hp)
      omega
    intro q hq
    cases hd : l.drop k with
    | nil => rw [hd] at hq; cases hq
    | cons p t =>
      rw [hd] at hq hsd hhd
      have hp := hhd p rfl
      rcases List.mem_cons.1 hq with rfl | hq
      · exact hp
      · have := (List.pairwise_cons.1 hsd).1 q hq
        omega
  have hms : ∀ q, q ∈ l.take k ++ (s, genOf L s) :: l.drop k ↔ q = (s, genOf L s) ∨ q ∈ l := fun q => by
    have e : q ∈ l ↔ q ∈ l.take k ∨ q ∈ l.drop k := by
      conv => lhs; rw [← List.take_append_drop k l]
      exact List.mem_append
    rw [List.mem_append, List.mem_cons, e]
    constructor
    · rintro (h | h | h)
      · exact .inr (.inl h)
      · exact .inl h
      · exact .inr (.inr h)
    · rintro (h | h | h)
      · exact .inr (.inl h)
      · exact .inl h
      · exact .inr (.inr h)
  refine ⟨?_, fun q => ?_, fun s' q hq => ?_, ?_, ?_, ?_⟩
  · rw [List.pairwise_append]
    refine ⟨h.sorted.sublist (List.take_sublist k l), List.pairwise_cons.2 ⟨fun q hq => hgt q hq, h.sorted.sublist (List.drop_sublist k l)⟩, fun a ha b hb => ?_⟩
    have h1 := hlt a ha
    rcases List.mem_cons.1 hb with rfl | hb
    · exact h1
    · have := hgt b hb
      omega
  · rw [hms, aget_aput]
    by_cases e : s = q.1
    · rw [if_pos e]
      constructor
      · rintro (h1 | h1)
        · rw [h1]
        · exact absurd e.symm (hns q h1)
      · intro h1
        exact .inl (Option.some.inj h1).symm
    · rw [if_neg e, ← h.mem]
      constructor
      · rintro (h1 | h1)
        · rw [h1] at e; exact absurd rfl e
        · exact h1
      · exact .inr
  · rw [aget_aput] at hq
    split at hq
    · rename_i e
      cases hq
      exact e
    · exact h.key s' q hq
  · have := h.len
    simp
    omega
  · have := length_aput V s (s, genOf L s)
    have := h.vlen
    omega
  · have := length_aput L s (genOf L s)
    have := h.llen
    omega
theorem Pl.drop (h : Pl n L V l) (p : Int × Int) (k : Nat) (hk : l[k]? = some p) : Pl n L (adel V p.1) (l.take k ++ l.drop (k + 1)) := by
  have hkl := (List.getElem?_eq_some_iff.1 hk).1
  have hke := (List.getElem?_eq_some_iff.1 hk).2
  have hsub : (l.take k ++ l.drop (k + 1)).Sublist l := by
    conv => rhs; rw [← List.take_append_drop k l]
    refine List.Sublist.append_left ?_ _
    rw [List.drop_eq_getElem_cons hkl]
    exact List.sublist_cons_self _ _
  have hsplit : l = l.take k ++ p :: l.drop (k + 1) := by
    conv => lhs; rw [← List.take_append_drop k l, List.drop_eq_getElem_cons hkl, hke]
  have hnd := h.nd2
  rw [hsplit] at hnd
  have hms : ∀ q, q ∈ l.take k ++ l.drop (k + 1) ↔ q ∈ l ∧ q ≠ p := fun q => by
    conv => rhs; rw [hsplit]
    rw [List.nodup_append] at hnd
    obtain ⟨n1, n2, n3⟩ := hnd
    simp only [List.mem_append, List.mem_cons]
    constructor
    · rintro (h1 | h1)
      · exact ⟨.inl h1, n3 q h1 p (by simp)⟩
      · exact ⟨.inr (.inr h1), fun e => by subst e; exact (List.nodup_cons.1 n2).1 h1⟩
    · rintro ⟨h1 | h1 | h1, h2⟩
      · exact .inl h1
      · exact absurd h1 h2
      · exact .inr h1
  refine ⟨h.sorted.sublist hsub, fun q => ?_, fun s q hq => ?_, Nat.le_trans hsub.length_le h.len, Nat.le_trans (length_adel V p.1) h.vlen, h.llen⟩
  · rw [hms, aget_adel, h.mem]
    have hp := (h.mem p).1 (List.mem_of_getElem? hk)
    by_cases e : p.1 = q.1
    · rw [if_pos e]
      constructor
      · rintro ⟨h1, h2⟩
        rw [← e, hp] at h1
        exact absurd (Option.some.inj h1).symm h2
      · intro h1; cases h1
    · rw [if_neg e]
      exact ⟨fun h1 => h1.1, fun h1 => ⟨h1, fun e2 => e (by rw [e2])⟩⟩
  · rw [aget_adel] at hq
    split at hq
    · cases hq
    · exact h.key s q hq
end
end Go.Proofs.Ytgleceijdedlkaa
