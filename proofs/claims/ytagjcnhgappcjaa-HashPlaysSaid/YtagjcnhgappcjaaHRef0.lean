/- The document's hash: its slots in plain words. -/
import Derived.Test.YtagjcnhgappcjaaHMap0
namespace Go.Proofs.Ytagjcnhgappcjaa
open Go.RowKit Go.Maps Go.Sort Go.Shelf Go.WideElems
set_option linter.unusedVariables false
set_option linter.unusedSimpArgs false
def keyE (o : Option (ByteArray × List UInt8)) : ByteArray := match o with | some v => v.1 | none => ⟨#[]⟩
def textE (o : Option (ByteArray × List UInt8)) : ByteArray := match o with | some v => bstr v.2 | none => ⟨#[]⟩
/-- A slot's cells. -/
def rowE (o : Option (ByteArray × List UInt8)) : List Value := [.string (keyE o), .string (textE o), .bool o.isSome]
def rowsE (m : Nat) (vs : Vs) : List (List Value) := (List.range m).map fun i : Nat => rowE (aget vs (i : Int))
theorem rowsE_len (m : Nat) (vs : Vs) : (rowsE m vs).length = m := by simp [rowsE]
theorem rowsE_three (m : Nat) (vs : Vs) : ∀ r ∈ rowsE m vs, r.length = 3 := fun r hr => by
  obtain ⟨i, _, rfl⟩ := List.mem_map.1 hr
  rfl
theorem rowsE_at {m : Nat} {vs : Vs} {i : Nat} (h : i < m) : (rowsE m vs)[i]? = some (rowE (aget vs (i : Int))) := by
  unfold rowsE
  rw [List.getElem?_map, List.getElem?_range h]
  rfl
theorem rowsE_set {m : Nat} {vs vs' : Vs} {i : Nat} (hi : i < m) (h : ∀ j : Nat, j ≠ i → aget vs' (j : Int) = aget vs (j : Int)) : rowsE m vs' = (rowsE m vs).set i (rowE (aget vs' (i : Int))) := by
  apply List.ext_getElem?
  intro j
  by_cases hj : j < m
  · rw [rowsE_at hj, List.getElem?_set, rowsE_len]
    by_cases e : i = j
    · subst e
      rw [if_pos rfl, if_pos hi]
    · rw [if_neg e, rowsE_at hj, h j (Ne.symm e)]
  · rw [List.getElem?_eq_none (by rw [rowsE_len]; omega), List.getElem?_eq_none (by rw [List.length_set, rowsE_len]; omega)]
theorem rowsE_nil (m : Nat) : rowsE m [] = List.replicate m (rowE none) := by
  unfold rowsE
  simp only [aget]
  rw [List.map_const', List.length_range]
theorem toList_inj {a b : ByteArray} (h : a.toList = b.toList) : a = b := by
  rw [Go.Lib.toList_data, Go.Lib.toList_data] at h
  exact ckey_inj h
theorem at_yes {size n : Int} {vs : Vs} (hb : HB size n vs) {i : Nat} {k k' : ByteArray} {L : List UInt8} (hi : aget vs (i : Int) = some (k', L)) (h : (k'.toList == k.toList) = true) : aget (swp vs) k = some (i : Int) := by
  have : k' = k := toList_inj (by simpa using h)
  subst this
  exact hb.inv.back hi
theorem at_no {size n : Int} {vs : Vs} (hb : HB size n vs) {i : Nat} {k k' : ByteArray} {L : List UInt8} (hi : aget vs (i : Int) = some (k', L)) (h : (k'.toList == k.toList) = false) : aget (swp vs) k ≠ some (i : Int) := fun e => by
  obtain ⟨b, h2⟩ := hb.inv.find e
  rw [hi] at h2
  cases h2
  simp at h
theorem at_none {size n : Int} {vs : Vs} (hb : HB size n vs) {i : Nat} {k : ByteArray} (hi : aget vs (i : Int) = none) : aget (swp vs) k ≠ some (i : Int) := fun e => by
  obtain ⟨b, h2⟩ := hb.inv.find e
  rw [hi] at h2
  cases h2
def atV (vs : Vs) (k : ByteArray) : Int := (aget (swp vs) k).getD (-1)
theorem atV_some {vs : Vs} {k : ByteArray} {i : Int} (h : aget (swp vs) k = some i) : atV vs k = i := by unfold atV; rw [h]; rfl
theorem atV_none {size n : Int} {vs : Vs} (hb : HB size n vs) {k : ByteArray} (h : ∀ j : Nat, (j : Int) < n → aget (swp vs) k ≠ some (j : Int)) : aget (swp vs) k = none ∧ atV vs k = -1 := by
  cases hg : aget (swp vs) k with
  | none => exact ⟨rfl, by unfold atV; rw [hg]; rfl⟩
  | some i =>
    obtain ⟨b, h2⟩ := hb.inv.find hg
    have h3 := hb.okI h2
    have := h i.toNat (by omega)
    rw [hg] at this
    exact absurd (by congr 1; omega) this
theorem aget_keys {vs : Vs} {x : Int} : aget vs x = none ↔ x ∉ vs.map (·.1) := aget_none_iff vs x
/-- The slots by rising numbers. -/
def slotsL (n : Int) (vs : Vs) (m : Nat) : List Int := ((List.range m).filter fun i : Nat => (aget vs (i : Int)).isSome).map fun i : Nat => (i : Int)
theorem slotsL_more (n : Int) (vs : Vs) (m : Nat) : slotsL n vs (m + 1) = slotsL n vs m ++ if (aget vs (m : Int)).isSome then [(m : Int)] else [] := by
  unfold slotsL
  rw [List.range_succ, List.filter_append, List.map_append]
  congr 1
  by_cases h : (aget vs (m : Int)).isSome
  · simp [List.filter_cons, h]
  · simp [List.filter_cons, h]
theorem slotsL_eq {size n : Int} {vs : Vs} (hb : HB size n vs) : slotsL n vs n.toNat = keysOf vs := by
  have hs : (slotsL n vs n.toNat).Pairwise (fun a b => leI a b = true) := by
    unfold slotsL
    rw [List.pairwise_map]
    refine (List.pairwise_lt_range.filter _).imp fun {a b} h => ?_
    simp only [leI, decide_eq_true_eq]
    omega
  have hnd : (slotsL n vs n.toNat).Nodup := by
    unfold slotsL
    have h := (List.nodup_range (n := n.toNat)).filter fun i : Nat => (aget vs (i : Int)).isSome
    rw [List.nodup_iff_pairwise_ne, List.pairwise_map]
    exact (List.nodup_iff_pairwise_ne.1 h).imp fun h e => h (by omega)
  have hp : (slotsL n vs n.toNat).Perm (vs.map (·.1)) := by
    refine (List.perm_ext_iff_of_nodup hnd hb.inv.nd).2 fun x => ?_
    unfold slotsL
    constructor
    · intro h
      obtain ⟨i, hi, rfl⟩ := List.mem_map.1 h
      have h2 := (List.mem_filter.1 hi).2
      refine Classical.byContradiction fun hn => ?_
      rw [aget_keys.2 hn] at h2
      cases h2
    · intro h
      obtain ⟨v, hv, rfl⟩ := List.mem_map.1 h
      have h1 := hb.inv.bd v hv
      refine List.mem_map.2 ⟨v.1.toNat, List.mem_filter.2 ⟨List.mem_range.2 (by omega), ?_⟩, by omega⟩
      have e : ((v.1.toNat : Nat) : Int) = v.1 := by omega
      rw [e, aget_of_mem hb.inv.nd hv]
      rfl
  unfold keysOf
  rw [← mergeSort_of_perm_i hp]
  exact (List.mergeSort_of_pairwise hs).symm
theorem slotsL_len {size n : Int} {vs : Vs} (hb : HB size n vs) : (slotsL n vs n.toNat).length = vs.length := by
  rw [slotsL_eq hb]
  unfold keysOf
  simp
end Go.Proofs.Ytagjcnhgappcjaa
