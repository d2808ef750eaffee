/- HeapPlays: what the steps make of a heap and of the document's answer. -/
import Derived.Test.YtgleceijdedlkaaPair14
import Derived.Test.YtgleceijdedlkaaPlays12a
import Derived.Test.YtgleceijdedlkaaPlays13a
namespace Go.Proofs.Ytgleceijdedlkaa
set_option linter.unusedSectionVars false
set_option linter.unusedVariables false
set_option linter.unusedSimpArgs false
open Go.RowKit
/-- Both tell the same. -/
structure Hp (n : Nat) (room : Int) (st : HS) (us : List (Int × List UInt8)) (l : List (Int × Int)) : Prop where
  ps : Ps n room st.used st.sl us
  pl : Pl n st.L st.V l
  nd : (st.ob.map (·.1)).Nodup
  bd : ∀ p ∈ st.ob, 0 ≤ p.2.1 ∧ p.2.1 ≤ n
  ol : st.ob.length ≤ n
section
variable {n : Nat} {room : Int} {st : HS} {us : List (Int × List UInt8)} {l : List (Int × Int)}
theorem Hp.start (room : Int) (h : 0 ≤ room) : Hp 0 room HS.nil [] [] := ⟨Ps.start room h, Pl.start, by simp [HS.nil], by simp [HS.nil], by simp [HS.nil]⟩
theorem Hp.more (h : Hp n room st us l) : Hp (n + 1) room st us l := ⟨h.ps.more, h.pl.more, h.nd, fun p hp => by have := h.bd p hp; omega, by have := h.ol; omega⟩
theorem aput_new14 {K V : Type} [DecidableEq K] (l : List (K × V)) (x : K) (v : V) (h : x ∉ l.map (·.1)) : aput l x v = l ++ [(x, v)] := by
  induction l with
  | nil => rfl
  | cons p l ih =>
    obtain ⟨k, u⟩ := p
    simp only [List.map_cons, List.mem_cons, not_or] at h
    unfold aput
    rw [if_neg (fun e => h.1 e.symm), ih h.2]
    rfl
theorem Hp.pos (h : Hp n room st us l) (q : Int × Int) : (aget st.ob q = none ∧ posO st.ob q = -1) ∨ ∃ (i : Nat) (c k : Int), aget st.ob q = some (c, k) ∧ posO st.ob q = (i : Int) ∧ st.ob[i]? = some (q, (c, k)) := by
  rcases posO_cases (l := st.ob) (s := q) with ⟨h1, h2⟩ | ⟨i, p, h1, h2, h3⟩
  · refine .inl ⟨?_, h1⟩
    rw [aget_none_iff]
    intro hm
    obtain ⟨p, hp, e⟩ := List.mem_map.1 hm
    exact h2 p hp e
  · obtain ⟨q', c, k⟩ := p
    simp only at h3
    subst h3
    exact .inr ⟨i, c, k, aget_of_mem h.nd (List.mem_of_getElem? h2), h1, h2⟩
theorem Hp.here (h : Hp n room st us l) (i1 : ∀ s, (aget st.V s).isSome = (aget st.sl s).isSome) (i2 : ∀ q, (aget st.ob q).isSome = true ↔ aget st.V q.1 = some q) {q : Int × Int} {y : Int × Int} (hq : aget st.ob q = some y) :
    ∃ (j m : Nat) (bs : List UInt8), l[j]? = some q ∧ atI l q.1 = (j : Int) ∧ us[m]? = some (q.1, bs) ∧ posT us q.1 = (m : Int) ∧ aget st.sl q.1 = some bs := by
  have hv := (i2 q).1 (by rw [hq]; rfl)
  have hs : (aget st.sl q.1).isSome = true := by rw [← i1, hv]; rfl
  obtain ⟨bs, hb⟩ := Option.isSome_iff_exists.1 hs
  rcases h.pl.at_ q.1 with ⟨g1, -⟩ | ⟨j, p, g1, g2, g3, g4⟩
  · rw [g1] at hv; cases hv
  rw [hv] at g1
  cases g1
  rcases h.ps.at_ q.1 with ⟨e1, -⟩ | ⟨m, p2, e1, e2, e3, e4⟩
  · rw [e1] at hb; cases hb
  rw [hb] at e1
  obtain rfl := Option.some.inj e1
  obtain ⟨a, bs⟩ := p2
  simp only at e4
  subst e4
  exact ⟨j, m, bs, g3, g2, e3, e2, hb⟩
theorem Hp.set (h : Hp n room st us l) {i : Nat} {q : Int × Int} {c k : Int} (hi : st.ob[i]? = some (q, (c, k))) (c' : Int) (h0 : 0 ≤ c') (h1 : c' ≤ n + 1) : (aput st.ob q (c', k) = st.ob.set i (q, (c', k))) ∧ Hp (n + 1) room { st with ob := aput st.ob q (c', k) } us l := by
  have e := aput_at h.nd (c', k) hi
  refine ⟨e, h.ps.more, h.pl.more, ?_, fun p hp => ?_, ?_⟩
  · simp only
    rw [e, List.map_set]
    have hil := (List.getElem?_eq_some_iff.1 hi).1
    have : (st.ob.map (·.1)).set i q = st.ob.map (·.1) := by
      have hq : (st.ob.map (·.1))[i]? = some q := by rw [List.getElem?_map, hi]; rfl
      apply List.ext_getElem?
      intro x
      rw [List.getElem?_set]
      split
      · rename_i ex; subst ex
        rw [if_pos (by simpa using hil), hq]
      · rfl
    rw [this]
    exact h.nd
  · simp only at hp
    rcases mem_aput hp with rfl | hp
    · exact ⟨h0, by simp only; push_cast; omega⟩
    · have := h.bd p hp; omega
  · simp only
    rw [e]
    have := h.ol
    simp; omega
theorem Hp.free (h : Hp n room st us l) {i j m : Nat} {q : Int × Int} {c k : Int} {bs : List UInt8} (hi : st.ob[i]? = some (q, (c, k))) (hj : l[j]? = some q) (hm : us[m]? = some (q.1, bs)) :
    adel st.ob q = st.ob.take i ++ st.ob.drop (i + 1) ∧ Hp (n + 1) room { used := st.used - cls bs.length, sl := adel st.sl q.1, L := st.L, V := adel st.V q.1, ob := adel st.ob q } (us.take m ++ us.drop (m + 1)) (l.take j ++ l.drop (j + 1)) := by
  have e : adel st.ob q = st.ob.eraseIdx i := adel_at h.nd hi
  have hsub : (adel st.ob q).Sublist st.ob := by rw [e]; exact List.eraseIdx_sublist _ _
  refine ⟨by rw [e, List.eraseIdx_eq_take_drop_succ], (h.ps.give hm).more, (h.pl.drop q j hj).more, h.nd.sublist (hsub.map _), fun p hp => ?_, ?_⟩
  · have := h.bd p (hsub.subset hp)
    omega
  · have := hsub.length_le
    have := h.ol
    simp only; omega
theorem Hp.write (h : Hp n room st us l) {m : Nat} {a : Int} {bs : List UInt8} (hm : us[m]? = some (a, bs)) (cs : List UInt8) (hl : cs.length = bs.length) : Hp (n + 1) room { st with sl := aput st.sl a cs } (us.set m (a, cs)) l :=
  ⟨(h.ps.write hm cs hl).more, h.pl.more, h.nd, fun p hp => by have := h.bd p hp; omega, by have := h.ol; simp only; omega⟩
/-- Where the document puts a new one there the heap does. -/
theorem Hp.made (h : Hp n room st us l) (i1 : ∀ s, (aget st.V s).isSome = (aget st.sl s).isSome) (i2 : ∀ q, (aget st.ob q).isSome = true ↔ aget st.V q.1 = some q) {k j m : Nat} (hk : InsT us k) (hj : InsAt l (j : Int) m) (h1 : ∀ i : Nat, i < j → (i : Int) ∈ st.sl.map (·.1)) (h2 : (j : Int) ∉ st.sl.map (·.1)) (z kind : Int) (hz : okc z = true) (hr : st.used + cls z ≤ room) :
    k = j ∧ (st.made j z kind).ob = st.ob ++ [(((j : Int), genOf st.L j), ((1 : Int), kind))] ∧ (st.made j z kind).L = aput st.L j (genOf st.L j) ∧ Hp (n + 1) room (st.made j z kind) (us.take k ++ ((k : Int), List.replicate z.toNat (0 : UInt8)) :: us.drop k) (l.take m ++ ((j : Int), genOf st.L j) :: l.drop m) := by
  have e := h.ps.same hk h1 h2
  subst e
  have hs : aget st.sl (k : Int) = none := (aget_none_iff _ _).2 h2
  have hv : aget st.V (k : Int) = none := by
    have := i1 (k : Int)
    rw [hs] at this
    cases hV : aget st.V (k : Int) with
    | none => rfl
    | some y => rw [hV] at this; cases this
  have ho : aget st.ob ((k : Int), genOf st.L k) = none := by
    cases hO : aget st.ob ((k : Int), genOf st.L k) with
    | none => rfl
    | some y =>
      have := (i2 _).1 (by rw [hO]; rfl)
      rw [hv] at this; cases this
  have hok := (aget_none_iff _ _).1 ho
  have eo := aput_new14 st.ob ((k : Int), genOf st.L k) ((1 : Int), kind) hok
  have es := aput_new14 st.sl (k : Int) (List.replicate z.toNat (0 : UInt8)) h2
  have hz' : 1 ≤ z ∧ z ≤ 128 := by simpa [okc] using hz
  have ez : ((List.replicate z.toNat (0 : UInt8)).length : Int) = z := by simp; omega
  have hps := h.ps.take hk (List.replicate z.toNat (0 : UInt8)) (by rw [ez]; exact hz) (by rw [ez]; exact hr)
  rw [ez] at hps
  refine ⟨rfl, eo, rfl, ⟨?_, h.pl.made _ hv _ hj, ?_, fun p hp => ?_, ?_⟩⟩
  · simp only [HS.made]
    rw [es]
    exact hps
  · simp only [HS.made]
    rw [eo, List.map_append, List.nodup_append]
    refine ⟨h.nd, by simp, fun a ha b hb => ?_⟩
    simp at hb
    subst hb
    exact fun e2 => hok (e2 ▸ ha)
  · simp only [HS.made] at hp
    rw [eo] at hp
    rcases List.mem_append.1 hp with hp | hp
    · have := h.bd p hp; omega
    · simp at hp; subst hp; exact ⟨by simp, by simp only; push_cast; omega⟩
  · simp only [HS.made]
    rw [eo]
    have := h.ol
    simp; omega
end
end Go.Proofs.Ytgleceijdedlkaa
