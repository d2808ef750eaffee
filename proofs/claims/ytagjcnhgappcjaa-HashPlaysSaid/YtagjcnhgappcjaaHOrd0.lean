/- Keys put in some order, each with its own bytes: plain words. -/
import Derived.Test.YtagjcnhgappcjaaHMap0
namespace Go.Proofs.Ytagjcnhgappcjaa
open Go.RowKit Go.Maps Go.Sort Go.Shelf Go.WideElems
set_option linter.unusedVariables false
set_option linter.unusedSimpArgs false
/-- A key put, its bytes written. -/
def stepS (vs : Vs) (k : ByteArray) : Int := (put 8 256 vs k).1.1
def stepV (vs : Vs) (k : ByteArray) : Vs := (write 8 (put 8 256 vs k).2 (stepS vs k) 0 k).2
structure OrdI (vs : Vs) (P : List ByteArray) : Prop where
  hb : HB 8 256 vs
  same : ∀ v ∈ vs, v.2.2 = ckey v.2.1
  slots : vs.map (·.1) = (List.range vs.length).map fun i : Nat => (i : Int)
  keys : ∀ k, k ∈ vs.map (·.2.1) ↔ k ∈ P
  len : vs.length ≤ P.length
theorem OrdI.start : OrdI [] [] := ⟨.start (by omega) (by omega) (by omega) (by omega), by simp, by simp, by simp, by simp⟩
theorem over_whole (L : List UInt8) (m : List UInt8) (h : m.length = L.length) : over L 0 m = m := by
  unfold over
  simp [h]
section
variable {vs : Vs} {P : List ByteArray} {k : ByteArray}
theorem stepV_slot (h : HB 8 256 vs) (h8 : k.size = 8) : 0 ≤ stepS vs k ∧ stepS vs k < 256 := by
  unfold stepS
  rcases put_ok h h8 with ⟨e, _⟩ | ⟨i, f, L, e, h0, h1, _⟩
  · rw [e]; omega
  · rw [e]; exact ⟨h0, h1⟩
theorem OrdI.step (h : OrdI vs P) (h8 : k.size = 8) (hP : P.length < 256) : OrdI (stepV vs k) (P ++ [k]) := by
  have hkl : k.data.toList.length = k.size := rfl
  have hb' : HB 8 256 (stepV vs k) := (h.hb.put k).write _ _ _
  cases hg : aget (swp vs) k with
  | some i =>
    obtain ⟨L, hL⟩ := h.hb.inv.find hg
    have hm := aget_mem hL
    have hs := h.same _ hm
    have hl8 : (L.length : Int) = 8 := h.hb.inv.bs _ hm
    have e : stepV vs k = vs := by
      unfold stepV stepS
      rw [put_old h8 hg]
      simp only
      rw [write_ok hL (by omega) (by omega)]
      simp only
      have : over L (0 : Int).toNat k.data.toList = L := by
        rw [show (0 : Int).toNat = 0 from rfl, over_whole _ _ (by omega)]
        exact hs.symm
      rw [this]
      exact aput_same hL
    rw [e]
    refine ⟨h.hb, h.same, h.slots, fun k' => ?_, by simp; have := h.len; omega⟩
    rw [h.keys, List.mem_append, List.mem_singleton]
    refine ⟨.inl, fun h' => h'.elim id fun e => ?_⟩
    subst e
    exact (h.keys _).1 (List.mem_map.2 ⟨_, hm, rfl⟩)
  | none =>
    have hlen : vs.length ≠ (256 : Int).toNat := by have := h.len; simp; omega
    obtain ⟨i, hp, h0, h1, h2, hfr⟩ := put_new h.hb h8 hg hlen
    have hi : i = vs.length := by
      have hf : freeV 256 vs = some vs.length := by
        refine freeV_some (by have := h.len; omega) ?_ fun j hj => ?_
        · rw [h.slots]
          intro hm
          obtain ⟨j, hj, e⟩ := List.mem_map.1 hm
          rw [List.mem_range] at hj
          omega
        · rw [h.slots]
          exact List.mem_map.2 ⟨j, List.mem_range.2 hj, rfl⟩
      rw [hf] at hfr
      have := Option.some.inj hfr
      omega
    have e : stepV vs k = vs ++ [(i, k, ckey k)] := by
      unfold stepV stepS
      rw [hp]
      simp only
      have hg1 : aget (vs ++ [(i, k, List.replicate (8 : Int).toNat (0 : UInt8))]) i = some (k, List.replicate (8 : Int).toNat 0) := by
        rw [aget_app, (aget_none_iff vs _).2 h2]
        simp [aget]
      rw [write_ok hg1 (by omega) (by omega)]
      simp only
      rw [show (0 : Int).toNat = 0 from rfl, over_whole _ _ (by rw [hkl, h8]; rfl)]
      have : ∀ (l : Vs) (u v : ByteArray × List UInt8), i ∉ l.map (·.1) → aput (l ++ [(i, u)]) i v = l ++ [(i, v)] := by
        intro l u v hn
        induction l with
        | nil => simp [aput]
        | cons p l ih =>
          obtain ⟨a, b⟩ := p
          simp only [List.map_cons, List.mem_cons, not_or] at hn
          simp only [List.cons_append, aput, if_neg (Ne.symm hn.1)]
          rw [ih hn.2]
      exact this vs _ _ h2
    rw [e] at hb' ⊢
    refine ⟨hb', fun v hv => ?_, ?_, fun k' => ?_, by simp; have := h.len; omega⟩
    · rcases List.mem_append.1 hv with hv | hv
      · exact h.same v hv
      · obtain rfl := List.mem_singleton.1 hv; rfl
    · rw [List.map_append, h.slots, List.length_append, List.length_singleton, List.range_succ, List.map_append, hi]
      rfl
    · rw [List.map_append, List.mem_append, List.mem_append, h.keys]
      simp
end
theorem tells_eq {a b : Vs} {P Q : List ByteArray} (ha : OrdI a P) (hb : OrdI b Q) (h : P.Perm Q) : tells a = tells b := by
  have hp : (a.map fun v => ckey v.2.1).Perm (b.map fun v => ckey v.2.1) := by
    refine (List.perm_ext_iff_of_nodup ?_ ?_).2 fun q => ?_
    · exact (tells_perm a).nodup_iff.1 (tells_nodup ha.hb)
    · exact (tells_perm b).nodup_iff.1 (tells_nodup hb.hb)
    · constructor
      · intro hm
        obtain ⟨v, hv, rfl⟩ := List.mem_map.1 hm
        have h1 := (ha.keys v.2.1).1 (List.mem_map.2 ⟨v, hv, rfl⟩)
        obtain ⟨u, hu, e⟩ := List.mem_map.1 ((hb.keys v.2.1).2 (h.mem_iff.1 h1))
        exact List.mem_map.2 ⟨u, hu, by rw [e]⟩
      · intro hm
        obtain ⟨v, hv, rfl⟩ := List.mem_map.1 hm
        have h1 := (hb.keys v.2.1).1 (List.mem_map.2 ⟨v, hv, rfl⟩)
        obtain ⟨u, hu, e⟩ := List.mem_map.1 ((ha.keys v.2.1).2 (h.mem_iff.2 h1))
        exact List.mem_map.2 ⟨u, hu, by rw [e]⟩
  unfold tells textsOf swp
  rw [List.map_map, List.map_map]
  exact mergeSort_of_perm hp
theorem slots_eq {a b : Vs} {P Q : List ByteArray} (ha : OrdI a P) (hb : OrdI b Q) (h : P.Perm Q) : keysOf a = keysOf b := by
  have h1 := tells_eq ha hb h
  have h2 : a.length = b.length := by rw [← tells_len a, ← tells_len b, h1]
  unfold keysOf
  rw [ha.slots, hb.slots, h2]
theorem ord_get {a : Vs} {P : List ByteArray} (ha : OrdI a P) {q : List UInt8} (hq : q ∈ tells a) : hget a (slotOf a q) = (bstr q, true) := by
  obtain ⟨s, L, h1, h2, h3, _⟩ := tells_at ha.hb hq
  have e : slotOf a q = s := by unfold slotOf; rw [h1]; rfl
  rw [e]
  have := ha.same _ (aget_mem h2)
  simp only at this
  unfold hget
  rw [h2]
  simp only
  rw [this]
  unfold ckey
  rfl
/-- One taken out of the rest. -/
theorem rest_perm {ks done : List ByteArray} {n : Nat} {k : ByteArray} {rest : List ByteArray} (h : (done ++ rest).Perm ks) (hk : rest[n]? = some k) : ((done ++ [k]) ++ (rest.take n ++ rest.drop (n + 1))).Perm ks := by
  refine List.Perm.trans ?_ h
  rw [List.append_assoc]
  refine List.Perm.append_left _ ?_
  have : rest = rest.take n ++ k :: rest.drop (n + 1) := by
    obtain ⟨hn, rfl⟩ := List.getElem?_eq_some_iff.1 hk
    rw [List.getElem_cons_drop, List.take_append_drop]
  conv => rhs; rw [this]
  simpa using (List.perm_middle (a := k) (l₁ := rest.take n) (l₂ := rest.drop (n + 1))).symm
end Go.Proofs.Ytagjcnhgappcjaa
