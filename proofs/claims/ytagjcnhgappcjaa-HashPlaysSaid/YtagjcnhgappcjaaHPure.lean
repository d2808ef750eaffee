/- A hash's values: plain words. -/
import Derived.Test.YtagjcnhgappcjaaSepLib
import Derived.Test.YtagjcnhgappcjaaByteLib
namespace Go.Proofs.Ytagjcnhgappcjaa
open Go.RowKit
set_option linter.unusedVariables false
set_option linter.unusedSimpArgs false
set_option linter.unusedSectionVars false
/-- Values: slot, key, bytes. -/
abbrev Vs := List (Int × (ByteArray × List UInt8))
def swp (vs : Vs) : List (ByteArray × Int) := vs.map fun v => (v.2.1, v.1)
structure HInv (size n : Int) (vs : Vs) : Prop where
  nd : (vs.map (·.1)).Nodup
  kd : (vs.map (·.2.1)).Nodup
  bd : ∀ v ∈ vs, 0 ≤ v.1 ∧ v.1 < n
  ks : ∀ v ∈ vs, v.2.1.size = 8
  bs : ∀ v ∈ vs, (v.2.2.length : Int) = size
section
variable {size n : Int} {vs : Vs}
theorem HInv.start (size n : Int) : HInv size n [] := ⟨by simp, by simp, by simp, by simp, by simp⟩
theorem swp_keys (vs : Vs) : (swp vs).map (·.1) = vs.map (·.2.1) := by simp [swp]
theorem HInv.find (h : HInv size n vs) {key : ByteArray} {i : Int} (hk : aget (swp vs) key = some i) : ∃ bs, aget vs i = some (key, bs) := by
  obtain ⟨v, hv, e⟩ := List.mem_map.1 (aget_mem hk)
  cases e
  exact ⟨v.2.2, aget_of_mem h.nd hv⟩
theorem HInv.back (h : HInv size n vs) {key : ByteArray} {i : Int} {bs : List UInt8} (hv : aget vs i = some (key, bs)) : aget (swp vs) key = some i :=
  aget_of_mem (by rw [swp_keys]; exact h.kd) (List.mem_map.2 ⟨_, aget_mem hv, rfl⟩)
theorem swp_put (vs : Vs) (i : Int) (key : ByteArray) (bs : List UInt8) : swp (vs ++ [(i, key, bs)]) = swp vs ++ [(key, i)] := by simp [swp]
theorem HInv.put (h : HInv size n vs) {i : Int} {key : ByteArray} {bs : List UInt8} (hi : i ∉ vs.map (·.1)) (hk : aget (swp vs) key = none) (h0 : 0 ≤ i) (h1 : i < n) (h8 : key.size = 8) (hb : (bs.length : Int) = size) : HInv size n (vs ++ [(i, key, bs)]) := by
  rw [aget_none_iff, swp_keys] at hk
  refine ⟨?_, ?_, fun v hv => ?_, fun v hv => ?_, fun v hv => ?_⟩
  · rw [List.map_append, List.nodup_append]
    refine ⟨h.nd, by simp, fun a ha b hb e => ?_⟩
    simp at hb
    subst hb
    exact hi (e ▸ ha)
  · rw [List.map_append, List.nodup_append]
    refine ⟨h.kd, by simp, fun a ha b hb e => ?_⟩
    simp at hb
    subst hb
    exact hk (e ▸ ha)
  all_goals
    rcases List.mem_append.1 hv with hv | hv
  · exact h.bd v hv
  · obtain rfl := List.mem_singleton.1 hv; exact ⟨h0, h1⟩
  · exact h.ks v hv
  · obtain rfl := List.mem_singleton.1 hv; exact h8
  · exact h.bs v hv
  · obtain rfl := List.mem_singleton.1 hv; exact hb
theorem swp_adel (h : HInv size n vs) {i : Int} {key : ByteArray} {bs : List UInt8} (hv : aget vs i = some (key, bs)) : swp (adel vs i) = adel (swp vs) key := by
  unfold swp adel
  rw [List.filter_map]
  congr 1
  apply List.filter_congr
  intro v hm
  simp only [Function.comp_def]
  by_cases e : v.1 = i
  · have : aget vs v.1 = some v.2 := aget_of_mem h.nd hm
    rw [e, hv] at this
    have e2 : v.2.1 = key := by rw [← Option.some.inj this]
    simp [e, e2]
  · have e2 : v.2.1 ≠ key := fun e3 => e (congrArg Prod.fst (inj_of_nodup (f := fun v : Int × (ByteArray × List UInt8) => v.2.1) h.kd hm (aget_mem hv) e3))
    simp [e, e2]
theorem HInv.del (h : HInv size n vs) (i : Int) : HInv size n (adel vs i) := by
  have hs : (adel vs i).Sublist vs := List.filter_sublist
  exact ⟨h.nd.sublist (hs.map _), h.kd.sublist (hs.map _), fun v hv => h.bd v (hs.subset hv), fun v hv => h.ks v (hs.subset hv), fun v hv => h.bs v (hs.subset hv)⟩
theorem swp_aput {i : Int} {key : ByteArray} {bs bs' : List UInt8} (hv : aget vs i = some (key, bs)) : swp (aput vs i (key, bs')) = swp vs := aput_map_eq hv (fun v => (v.2.1, v.1)) rfl
theorem HInv.write (h : HInv size n vs) {i : Int} {key : ByteArray} {bs bs' : List UInt8} (hv : aget vs i = some (key, bs)) (hl : bs'.length = bs.length) : HInv size n (aput vs i (key, bs')) := by
  have hm := aget_mem hv
  refine ⟨?_, ?_, fun v h2 => ?_, fun v h2 => ?_, fun v h2 => ?_⟩
  · rw [aput_map_eq (v' := (key, bs')) hv (fun v => v.1) rfl]; exact h.nd
  · rw [aput_map_eq (v' := (key, bs')) hv (fun v => v.2.1) rfl]; exact h.kd
  all_goals
    rcases mem_aput h2 with e | h2
  · rw [e]; exact (show 0 ≤ i ∧ i < n from h.bd _ hm)
  · exact h.bd v h2
  · rw [e]; exact (show key.size = 8 from h.ks _ hm)
  · exact h.ks v h2
  · rw [e, ← h.bs _ hm]; simp [hl]
  · exact h.bs v h2
end
end Go.Proofs.Ytagjcnhgappcjaa
