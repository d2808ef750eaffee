/- Keys and slots of a hash: plain words. -/
import Derived.Test.YtagjcnhgappcjaaHKeeps0
import Derived.Test.YtagjcnhgappcjaaHTexts
namespace Go.Proofs.Ytagjcnhgappcjaa
open Go.RowKit Go.Maps Go.Sort Go.Shelf Go.WideElems
set_option linter.unusedVariables false
set_option linter.unusedSimpArgs false
theorem aput_same {K V : Type} [DecidableEq K] {l : List (K × V)} {x : K} {v : V} (h : aget l x = some v) : aput l x v = l := by
  induction l with
  | nil => cases h
  | cons p l ih =>
    obtain ⟨a, b⟩ := p
    simp only [aget] at h
    simp only [aput]
    by_cases e : a = x
    · rw [if_pos e] at h ⊢
      cases h
      rw [e]
    · rw [if_neg e] at h ⊢
      rw [ih h]
theorem nodup_nat {vs : Vs} {size n : Int} (hb : HB size n vs) : (vs.map fun v => v.1.toNat).Nodup := by
  have := hb.inv.nd
  rw [List.nodup_iff_pairwise_ne, List.pairwise_map] at this ⊢
  refine this.imp_of_mem ?_
  intro a b ha hb' hne e
  have := hb.inv.bd a ha
  have := hb.inv.bd b hb'
  exact hne (by omega)
theorem free_none {vs : Vs} {size n : Int} (hb : HB size n vs) : freeV n vs = none ↔ vs.length = n.toNat := by
  constructor
  · intro h
    rcases freeV_cases n vs with ⟨i, e, _⟩ | ⟨_, h1⟩
    · rw [e] at h; cases h
    · have h2 : List.range n.toNat ⊆ vs.map fun v => v.1.toNat := fun x hx => by
        rw [List.mem_range] at hx
        obtain ⟨v, hv, e⟩ := List.mem_map.1 (h1 x (by omega))
        exact List.mem_map.2 ⟨v, hv, by omega⟩
      have := List.nodup_range.length_le_of_subset h2
      have := hb.len
      simp at *
      omega
  · intro h
    apply freeV_none
    intro j hj
    refine Classical.byContradiction fun hn => ?_
    have h1 : (j :: vs.map fun v => v.1.toNat).Nodup := by
      rw [List.nodup_cons]
      refine ⟨fun hm => hn ?_, nodup_nat hb⟩
      obtain ⟨v, hv, e⟩ := List.mem_map.1 hm
      have := hb.inv.bd v hv
      exact List.mem_map.2 ⟨v, hv, by omega⟩
    have h2 : (j :: vs.map fun v => v.1.toNat) ⊆ List.range n.toNat := fun x hx => by
      rw [List.mem_range]
      rcases List.mem_cons.1 hx with rfl | hx
      · omega
      · obtain ⟨v, hv, rfl⟩ := List.mem_map.1 hx
        have := hb.inv.bd v hv
        omega
    have := h1.length_le_of_subset h2
    simp at this
    omega
section
variable {size n : Int} {vs : Vs} {k : ByteArray}
theorem put_bad (h : k.size ≠ 8) : put size n vs k = ((0, false, 2), vs) := by unfold put; rw [if_pos h]
theorem put_old (h : k.size = 8) {i : Int} (hi : aget (swp vs) k = some i) : put size n vs k = ((i, false, 0), vs) := by unfold put; rw [if_neg (by omega), hi]
theorem put_full (hb : HB size n vs) (h : k.size = 8) (hi : aget (swp vs) k = none) (hl : vs.length = n.toNat) : put size n vs k = ((0, false, 6), vs) := by unfold put; rw [if_neg (by omega), hi, (free_none hb).2 hl]
theorem put_new (hb : HB size n vs) (h : k.size = 8) (hi : aget (swp vs) k = none) (hl : vs.length ≠ n.toNat) : ∃ i : Int, put size n vs k = ((i, true, 0), vs ++ [(i, k, List.replicate size.toNat 0)]) ∧ 0 ≤ i ∧ i < n ∧ i ∉ vs.map (·.1) ∧ freeV n vs = some i.toNat := by
  rcases freeV_cases n vs with ⟨i, e, h1, h2, _⟩ | ⟨e, _⟩
  · refine ⟨i, ?_, by omega, h1, h2, by rw [e]; simp⟩
    unfold put
    rw [if_neg (by omega), hi, e]
  · exact absurd ((free_none hb).1 e) hl
theorem drop_bad (h : k.size ≠ 8) : drop vs k = ((0, 2), vs) := by unfold drop; rw [if_pos h]
theorem drop_old (h : k.size = 8) {i : Int} (hi : aget (swp vs) k = some i) : drop vs k = ((i, 0), adel vs i) := by unfold drop; rw [if_neg (by omega), hi]
theorem drop_no (h : k.size = 8) (hi : aget (swp vs) k = none) : drop vs k = ((0, 5), vs) := by unfold drop; rw [if_neg (by omega), hi]
theorem no_key (hb : HB size n vs) (h : k.size ≠ 8) : aget (swp vs) k = none := by
  rw [aget_none_iff, swp_keys]
  intro hm
  obtain ⟨v, hv, rfl⟩ := List.mem_map.1 hm
  exact h (hb.inv.ks v hv)
theorem swp_len (vs : Vs) : (swp vs).length = vs.length := by simp [swp]
end
/-- The keys told. -/
def tells (vs : Vs) : List (List UInt8) := textsOf (swp vs)
theorem tells_perm (vs : Vs) : (tells vs).Perm (vs.map fun v => ckey v.2.1) := by
  unfold tells textsOf
  refine (List.mergeSort_perm _ _).trans ?_
  unfold swp
  rw [List.map_map]
  exact List.Perm.refl _
theorem tells_len (vs : Vs) : (tells vs).length = vs.length := by rw [(tells_perm vs).length_eq]; simp
theorem ckey_inj {a b : ByteArray} (h : ckey a = ckey b) : a = b := by
  have := congrArg bstr h
  unfold ckey at this
  rwa [bstr_data, bstr_data] at this
theorem tells_nodup {size n : Int} {vs : Vs} (hb : HB size n vs) : (tells vs).Nodup := by
  rw [(tells_perm vs).nodup_iff]
  have := hb.inv.kd
  rw [List.nodup_iff_pairwise_ne, List.pairwise_map] at this ⊢
  exact this.imp fun h e => h (ckey_inj e)
theorem tells_at {size n : Int} {vs : Vs} (hb : HB size n vs) {q : List UInt8} (hq : q ∈ tells vs) : ∃ s L, aget (swp vs) (bstr q) = some s ∧ aget vs s = some (bstr q, L) ∧ (bstr q).size = 8 ∧ 0 ≤ s ∧ s < n ∧ (L.length : Int) = size := by
  obtain ⟨v, hv, rfl⟩ := List.mem_map.1 ((tells_perm vs).mem_iff.1 hq)
  unfold ckey
  rw [bstr_data]
  have h1 : aget vs v.1 = some v.2 := aget_of_mem hb.inv.nd hv
  have h2 := hb.inv.back (i := v.1) (key := v.2.1) (bs := v.2.2) h1
  have h3 := hb.inv.bd v hv
  exact ⟨v.1, v.2.2, h2, h1, hb.inv.ks v hv, h3.1, h3.2, hb.inv.bs v hv⟩
/-- The slot of a key. -/
def slotOf (vs : Vs) (q : List UInt8) : Int := (aget (swp vs) (bstr q)).getD 0
theorem tells_slot {size n : Int} {vs : Vs} (hb : HB size n vs) {q : List UInt8} (hq : q ∈ tells vs) : find vs (bstr q) = (slotOf vs q, 0) ∧ hkey vs (slotOf vs q) = (bstr q, true) ∧ aget (swp vs) (bstr q) = some (slotOf vs q) ∧ 0 ≤ slotOf vs q ∧ slotOf vs q < n ∧ q.length = 8 := by
  obtain ⟨s, L, h1, h2, h3, h4, h5, _⟩ := tells_at hb hq
  have e : slotOf vs q = s := by unfold slotOf; rw [h1]; rfl
  rw [e]
  refine ⟨?_, ?_, h1, h4, h5, by rwa [bstr_size] at h3⟩
  · unfold find
    rw [if_neg (by omega), h1]
  · unfold hkey
    rw [h2]
theorem tells_slots {size n : Int} {vs : Vs} (hb : HB size n vs) : ((tells vs).map (slotOf vs)).Nodup := by
  have := tells_nodup hb
  rw [List.nodup_iff_pairwise_ne] at this ⊢
  rw [List.pairwise_map]
  refine this.imp_of_mem ?_
  intro a b ha hb' hne e
  have h1 := (tells_slot hb ha).2.1
  have h2 := (tells_slot hb hb').2.1
  rw [e, h2] at h1
  have := congrArg Prod.fst h1
  exact hne (bstr_inj this).symm
theorem tells_lt {size n : Int} {vs : Vs} (hb : HB size n vs) {i : Nat} {p q : List UInt8} (hp : (tells vs)[i]? = some p) (hq : (tells vs)[i + 1]? = some q) : ¬ q ≤ p := by
  have hs : (tells vs).Pairwise (fun a b => leB a b = true) := List.pairwise_mergeSort (fun a b c h1 h2 => by simp only [leB, decide_eq_true_eq] at *; exact List.le_trans h1 h2) (fun a b => by simp only [leB, Bool.or_eq_true, decide_eq_true_eq]; exact List.le_total a b) _
  obtain ⟨h1, rfl⟩ := List.getElem?_eq_some_iff.1 hp
  obtain ⟨h2, rfl⟩ := List.getElem?_eq_some_iff.1 hq
  have h3 := List.pairwise_iff_getElem.1 hs i (i + 1) h1 h2 (by omega)
  intro h4
  have h5 : (tells vs)[i] = (tells vs)[i + 1] := List.le_antisymm (of_decide_eq_true h3) h4
  have := (List.nodup_iff_pairwise_ne.1 (tells_nodup hb))
  exact (List.pairwise_iff_getElem.1 this i (i + 1) h1 h2 (by omega)) h5
end Go.Proofs.Ytagjcnhgappcjaa
