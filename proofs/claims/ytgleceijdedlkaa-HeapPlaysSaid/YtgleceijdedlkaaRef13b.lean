/- The document's answer for the table of handles: gen. -/
import Derived.Test.YtgleceijdedlkaaRef13
namespace Go.Proofs.Ytgleceijdedlkaa
open Go.RowKit
set_option linter.unusedVariables false
set_option linter.unusedSimpArgs false
set_option linter.unusedSectionVars false
theorem cell_lt' {w : World} {g o : Nat} {v : Value} (h : w.cell? ⟨g, o, none⟩ = some v) : g < w.heap.size := by
  unfold World.cell? at h
  split at h
  · exact (Array.getElem?_eq_some_iff.1 ‹_›).1
  · cases h
theorem flatten_set2 (x y : Value) : ∀ {l : List (List Value)}, (∀ r ∈ l, r.length = 2) → ∀ {i : Nat}, i < l.length → (l.set i [x, y]).flatten = (l.flatten.set (i * 2) x).set (i * 2 + 1) y
  | [], _, i, h => by simp at h
  | r :: l, h, 0, _ => by
    have hr : r.length = 2 := h r (by simp)
    obtain ⟨a, b, rfl⟩ : ∃ a b, r = [a, b] := by
      match r, hr with
      | [a, b], _ => exact ⟨a, b, rfl⟩
    simp
  | r :: l, h, i + 1, hi => by
    have hr : r.length = 2 := h r (by simp)
    obtain ⟨a, b, rfl⟩ : ∃ a b, r = [a, b] := by
      match r, hr with
      | [a, b], _ => exact ⟨a, b, rfl⟩
    have := flatten_set2 x y (l := l) (fun r hr => h r (by simp [hr])) (i := i) (by simpa using hi)
    have e : (i + 1) * 2 = i * 2 + 1 + 1 := by omega
    rw [e]
    simp only [List.set_cons_succ, List.flatten_cons, this, List.cons_append, List.nil_append]
theorem rowR_set2 {e : TypeId} {w : World} {N : Nat → Prop} {b off n c : Nat} {l : List (List Value)} (h : rowR e 2 (.slice (some ⟨b, off, none⟩) n c) l w N) {i : Nat} (hi : i < l.length) (x y : Value) :
    off = 0 ∧ N b ∧ (∀ o, w.frozen? ⟨b, o, none⟩ = false) ∧ rowR e 2 (.slice (some ⟨b, off, none⟩) n c) (l.set i [x, y]) ((w.setCell ⟨b, off + i * 2, none⟩ x).setCell ⟨b, off + i * 2 + 1, none⟩ y) N := by
  obtain ⟨h1, h2, h3⟩ := h
  have hN := h3 b rfl
  rcases h1.2 with ⟨e0, _⟩ | ⟨g, cap, cur, e0, _, hg, hc, hm, hcs, ht⟩
  · cases e0
  · cases e0
    refine ⟨rfl, hN, fun o => frozen_of hg o, ⟨⟨?_, .inr ⟨b, c, (cur.setIfInBounds (0 + i * 2) x).setIfInBounds (0 + i * 2 + 1) y, by simp, Nat.zero_le _, ?_, by simpa using hc, hm, ?_, ?_⟩⟩, fun r hr => ?_, h3⟩⟩
    · rw [flatten_len (k := 2)]
      intro r hr
      rcases List.mem_or_eq_of_mem_set hr with hr | rfl
      · exact h2 r hr
      · rfl
    · exact heap_setCell_same (heap_setCell_same hg (0 + i * 2) x) (0 + i * 2 + 1) y
    · simp [hcs]
    · rw [flatten_set2 x y h2 hi, ← ht]
      simp [List.take_set]
    · rcases List.mem_or_eq_of_mem_set hr with hr | rfl
      · exact h2 r hr
      · rfl
theorem SepK.set2 {w0 w : World} {K : List (Nat × Obj)} {T : Res} [Good T] {e : TypeId} {b n c : Nat} {l : List (List Value)} (H : SepK w0 w K (star (rowR e 2 (.slice (some ⟨b, 0, none⟩) n c) l) T)) {i : Nat} (hi : i < l.length) (x y : Value) :
    SepK w0 ((w.setCell ⟨b, i * 2, none⟩ x).setCell ⟨b, i * 2 + 1, none⟩ y) K (star (rowR e 2 (.slice (some ⟨b, 0, none⟩) n c) (l.set i [x, y])) T) :=
  H.step fun N hR hN => by
    obtain ⟨-, hb, -, hs⟩ := rowR_set2 hR hi x y
    simp only [Nat.zero_add] at hs
    exact ⟨hs, .of1 (((Upd.refl [b] w).setCell _ _ (.inl (by simp))).setCell _ _ (.inl (by simp))) hb⟩
theorem aget_first {la : List (Int × Int)} {s : Int} {i : Nat} {q : Int × Int} (hi : la[i]? = some q) (hq : q.1 = s) (hn : ∀ j, j < i → ∀ p, la[j]? = some p → p.1 ≠ s) : aget la s = some q.2 ∧ ∀ v, aput la s v = la.set i (s, v) := by
  induction la generalizing i with
  | nil => simp at hi
  | cons p la ih =>
    obtain ⟨a, b⟩ := p
    cases i with
    | zero =>
      simp at hi
      subst hi
      simp only at hq
      subst hq
      simp [aget, aput]
    | succ i =>
      have h0 : a ≠ s := hn 0 (by omega) (a, b) rfl
      have := ih (i := i) (by simpa using hi) (fun j hj p hp => hn (j + 1) (by omega) p (by simpa using hp))
      simp only [aget, aput, if_neg h0, List.set_cons_succ]
      exact ⟨this.1, fun v => by rw [this.2 v]⟩
theorem aget_all {la : List (Int × Int)} {s : Int} (hn : ∀ q ∈ la, q.1 ≠ s) : aget la s = none ∧ ∀ v, aput la s v = la ++ [(s, v)] := by
  have h : s ∉ la.map (·.1) := fun hm => by
    obtain ⟨q, hq, e⟩ := List.mem_map.1 hm
    exact hn q hq e
  exact ⟨(aget_none_iff la s).2 h, fun v => aput_new v h⟩
section
variable {w0 w : World} {K : List (Nat × Obj)} {T : Res} [Good T] {r : Nat} {vL vA : Value} {l la : List (Int × Int)}
set_option maxRecDepth 100000 in
set_option maxHeartbeats 4000000 in
theorem rGen (H : SepK w0 w ((r, rblk vL vA) :: K) (star (rowR 30 2 vA (la.map encH)) T)) (hKr : ∀ p ∈ K, p.1 ≠ r) (s : Int) (hl : la.length ≤ 100000) :
    Calls Try.prog 72 #[.pointer (some ⟨r, 0, none⟩), .int .i64 s] w fun e w' => ∃ vA', e = .returned (.int .u64 (genOf la s)) ∧ SepK w0 w' ((r, rblk vL vA') :: K) (star (rowR 30 2 vA' ((aput la s (genOf la s)).map encH)) T) := by
  obtain ⟨A, c, rfl, hr, -⟩ := H.parts
  have fr := H.blk List.mem_cons_self
  have c1 := cell_of fr 1
  have lt := lt_of_heap fr
  simp only [List.getElem?_toArray, List.getElem?_cons_zero, List.getElem?_cons_succ, List.length_map] at c1
  rw [List.length_map] at H
  clear fr
  go_enter Try.func72, Try.ntmps72
  go_wp2_with fail
  go_loopg [5] la.length (fun kq v5 w' => ∃ i : Nat, v5 = .int .i64 (i : Int) ∧ kq + i = la.length ∧ w = w' ∧ ∀ j, j < i → ∀ p, la[j]? = some p → p.1 ≠ s)
  case atStart => exact ⟨0, rfl, rfl, rfl, fun j hj => by omega⟩
  case round =>
    obtain ⟨i, rfl, hk, rfl, hn⟩ := hrel
    by_cases hi : i < la.length
    · have z1 : decide ((i : Int) < (la.length : Int)) = true := decide_eq_true (by omega)
      obtain ⟨q, hq⟩ : ∃ q, la[i]? = some q := ⟨la[i], List.getElem?_eq_getElem hi⟩
      obtain ⟨b, off, rfl, k0, k1⟩ := rowcell (k := 0) (c := 0) hr hq
      by_cases hqs : q.1 = s
      · obtain ⟨hg, hp⟩ := aget_first hq hqs hn
        clear hn hr
        have hH : Unit → genOf la s = IntKind.u64.wrap (q.2 + 1) := fun _ => by unfold genOf; rw [hg]; rfl
        have hH2 : Unit → aput la s (genOf la s) = la.set i (s, genOf la s) := fun _ => hp _
        clear hg hp
        have z2 : (q.1 == s) = true := by simpa using hqs
        clear hqs
        obtain ⟨N, hN⟩ := H.get
        obtain ⟨rfl, -, ff, -⟩ := rowR_set2 hN (i := i) (by simpa using hi) (.int .i64 q.1) (.int .u64 (IntKind.u64.wrap (q.2 + 1)))
        have f1 := ff (i * 2)
        have f2 := ff (i * 2 + 1)
        clear ff hN
        simp only [Nat.zero_add] at k0 k1
        have lb := cell_lt' k0
        obtain ⟨w1, w2⟩ : 0 ≤ (i : Int) ∧ (i : Int) < (la.length : Int) := by omega
        have hqs' : q.1 = s := by simpa using z2
        have h3 := ((H.set2 (i := i) (by simpa using hi) (.int .i64 q.1) (.int .u64 (IntKind.u64.wrap (q.2 + 1)))).alloc (.cells #[.int .i64 q.1, .int .u64 (IntKind.u64.wrap (q.2 + 1))] 30)).upd (Upd.refl [] _).drew
        have hfin : Unit → (la.map encH).set i [.int .i64 q.1, .int .u64 (IntKind.u64.wrap (q.2 + 1))] = (aput la s (genOf la s)).map encH := fun _ => by
          rw [hH2 (), List.map_set, hH (), ← hqs']
          rfl
        clear hqs'
        go_upto_region 7 with fail
        refine still_tail 7 (by kernel_rfl) (by kernel_rfl) ?_
        simp only [List.take_succ_cons, List.take_zero, List.drop_succ_cons, List.drop_zero]
        repeat still_step
        refine wpStill_nil ?_
        go_wp2_with fail
        go_ret
        refine ⟨.slice (some ⟨b, 0, none⟩) la.length c, by rw [hH ()]; rfl, ?_⟩
        rw [← hfin ()]
        exact h3.drop ((r, rblk vL (.slice (some ⟨b, 0, none⟩) la.length c)) :: K) (fun p hp => List.mem_cons_of_mem _ hp)
      · have z2 : (q.1 == s) = false := by simpa using hqs
        have hn' : ∀ j, j < i + 1 → ∀ p, la[j]? = some p → p.1 ≠ s := fun j hj p hp => by
          by_cases e : j = i
          · subst e
            rw [hq] at hp
            cases hp
            exact hqs
          · exact hn j (by omega) p hp
        clear hn hr hqs
        have hH : Unit → ∀ j, j < i + 1 → ∀ p, la[j]? = some p → p.1 ≠ s := fun _ => hn'
        clear hn'
        go_wp2_with fail
        go_roundg (gk - 1)
        case measure => omega
        case rel => exact ⟨i + 1, by go_num, by omega, rfl, hH ()⟩
    · have z1 : decide ((i : Int) < (la.length : Int)) = false := decide_eq_false (by omega)
      obtain ⟨hg, hp⟩ := aget_all (la := la) (s := s) fun q hq => by
        obtain ⟨j, hj⟩ := List.mem_iff_getElem?.1 hq
        have := (List.getElem?_eq_some_iff.1 hj).1
        exact hn j (by omega) q hj
      have hH : Unit → genOf la s = 1 := fun _ => by unfold genOf; rw [hg]; rfl
      have hH2 : Unit → (aput la s (genOf la s)).map encH = la.map encH ++ [[.int .i64 s, .int .u64 1]] := fun _ => by rw [hH (), hp]; simp [encH]
      clear hn hr hg hp
      have h2 := H.alloc (.cells #[.int .i64 s, .int .u64 1] 30)
      obtain ⟨i0, hi0, hz0, hz1, hz2⟩ := info_parts info30
      go_wp2_with (at_builtin; refine wl_append rfl _ _ 54 rfl 30 i0 (.agg #[.int .i64 0, .int .u64 0]) 2 16 Try.underlying54 hi0 hz0 hz1 hz2 rfl (by decide) _ _ rfl h2 ⟨w.heap.size, 0, none⟩ 1 [.int .i64 s, .int .u64 1] rfl rfl (cell_two_new _ _ _ _) (fun x hx => by simp at hx; rcases hx with rfl | rfl <;> rfl) (by unfold maxLen; simp; omega) (by simp; omega) ?_; intro v' w5 h8; have f8 := h8.blk (b := r) (List.mem_cons_of_mem _ List.mem_cons_self); have ff := frozen_of f8 1; have c8 := cell_of f8 1; have lt8 := lt_of_heap f8; obtain ⟨A9, c9, rfl, hr9⟩ := h8.row; clear hr9)
      have h9 := h8.drop ((r, rblk vL (.slice A la.length c)) :: K) (fun p hp => List.mem_cons_of_mem _ hp)
      have h10 := h9.set (o' := rblk vL (.slice A9 (la.map encH ++ [[Value.int .i64 s, Value.int .u64 1]]).length c9)) ((Upd.refl [r] w5).setCell ⟨r, 1, none⟩ _ (.inl (by simp))) (by simpa [rblk] using heap_setCell_same f8 1 _) hKr
      go_ret
      refine ⟨.slice A9 (la.map encH ++ [[Value.int .i64 s, Value.int .u64 1]]).length c9, by rw [hH ()]; rfl, ?_⟩
      rw [hH2 ()]
      simpa using h10
end
end Go.Proofs.Ytgleceijdedlkaa
