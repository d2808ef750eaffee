/- Whoever goes where instructions lead stays; a chain of calls is no longer than there are subprograms. -/
import Derived.Test.YtibghcmkmbamjaaGNext
namespace Go.Proofs.Ytibghcmkmbamjaa
set_option linter.unusedVariables false
set_option linter.unusedSimpArgs false
/-- One has come to subprogram k by d calls. -/
def Depth (l : List Ins) (d k : Nat) : Prop := ∃ path : List Int, path.length = d ∧ path.Nodup ∧ ∀ j ∈ path, (0 ≤ j ∧ j < ((subsP l).length : Int)) ∧ ∃ t ∈ callsP l (subsP l) j, Comes (callsP l (subsP l)) t (k : Int)
section
variable {l : List Ins}
theorem depth_zero (k : Nat) : Depth l 0 k := ⟨[], rfl, List.nodup_nil, by simp⟩
theorem depth_le {d k : Nat} (h : Depth l d k) : d ≤ (subsP l).length := by
  obtain ⟨path, h1, h2, h3⟩ := h
  have := len_le_of_nodup path ((List.range (subsP l).length).map fun i : Nat => (i : Int)) h2 (fun x hx => by
    have := (h3 x hx).1
    exact List.mem_map.2 ⟨x.toNat, List.mem_range.2 (by omega), by omega⟩)
  simp at this
  omega
theorem Fine.noLoop (h : Fine l) {k : Nat} (hk : k < (subsP l).length) {t : Int} (ht : t ∈ callsP l (subsP l) (k : Int)) (hc : Comes (callsP l (subsP l)) t (k : Int)) : False := h.loops k hk ((h.mem_seenC _ _).2 ⟨t, ht, hc⟩)
theorem depth_step (h : Fine l) {d k j : Nat} (hd : Depth l d k) (hk : k < (subsP l).length) (hj : (j : Int) ∈ callsP l (subsP l) (k : Int)) : Depth l (d + 1) j := by
  obtain ⟨path, h1, h2, h3⟩ := hd
  refine ⟨(k : Int) :: path, by simp [h1], List.nodup_cons.2 ⟨fun hm => ?_, h2⟩, fun x hx => ?_⟩
  · obtain ⟨_, t, ht, hc⟩ := h3 _ hm
    exact h.noLoop hk ht hc
  · rcases List.mem_cons.1 hx with rfl | hx
    · exact ⟨⟨by omega, by omega⟩, (j : Int), hj, .here _⟩
    · obtain ⟨hb, t, ht, hc⟩ := h3 x hx
      exact ⟨hb, t, ht, hc.trans (.step hj (.here _))⟩
/-- Where one is. -/
structure At (l : List Ins) (d k : Nat) (s : Int × Int) (a : Int) : Prop where
  sub : (subsP l)[k]? = some s
  mem : a ∈ allP l
  inn : s.1 ≤ a ∧ a < s.2
  dep : Depth l d k
theorem At.kind {d k : Nat} {s : Int × Int} {a : Int} (h : At l d k s a) (hF : Fine l) : kindP l a ≠ 0 := fun e => by
  have := hF.whole a h.mem
  unfold wholeP at this
  simp [e] at this
theorem at_begin (hF : Fine l) {k : Nat} {s : Int × Int} (hk : (subsP l)[k]? = some s) : At l 0 k s s.1 := by
  have hb := hF.rows.sub hk
  exact ⟨hk, hF.starts hb.2.2.2, by omega, depth_zero k⟩
theorem At.next {d k : Nat} {s : Int × Int} {a t : Int} (h : At l d k s a) (hF : Fine l) (ht : t ∈ nextP l a) : At l d k s t := by
  have hn := hF.toKept.next h.mem ht
  have e : ofP (subsP l) a = k := hF.rows.of h.sub h.inn
  obtain ⟨s', hs', hin⟩ := ofP_get (hn.2.trans e)
  have : s = s' := Option.some.inj (h.sub.symm.trans hs')
  subst this
  exact ⟨h.sub, hn.1, hin, h.dep⟩
theorem At.call {d k : Nat} {s : Int × Int} {a t : Int} (h : At l d k s a) (hF : Fine l) (h7 : kindP l a = 7) (hc : calleeP l a = some t) : ∃ (j : Nat) (s' : Int × Int), (subsP l)[j]? = some s' ∧ s'.1 = t ∧ At l (d + 1) j s' t := by
  have hst : t ∈ startsP l := (starts_mem t).2 (.inr ⟨a, h.mem, hc⟩)
  obtain ⟨j, s', hj, hs'⟩ := hF.rows.begin hst
  have hb := hF.rows.sub hj
  have e : ofP (subsP l) a = k := hF.rows.of h.sub h.inn
  have e2 : ofP (subsP l) t = j := hF.rows.of hj (by omega)
  have hk := (List.getElem?_eq_some_iff.1 h.sub).1
  refine ⟨j, s', hj, hs', ⟨hj, hF.starts hst, by omega, depth_step hF h.dep hk (mem_callsP.2 ⟨a, h.mem, t, hc, h7, e, e2⟩)⟩⟩
theorem next_nil {a : Int} (h : nextP l a = []) (h0 : kindP l a ≠ 0) : kindP l a = 8 := by
  unfold nextP at h
  split at h
  · rename_i hk
    exact hk.resolve_left h0
  · repeat' split at h
    all_goals simp at h
end
end Go.Proofs.Ytibghcmkmbamjaa
