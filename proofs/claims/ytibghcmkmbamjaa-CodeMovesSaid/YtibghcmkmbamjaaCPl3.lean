/- With instructions that are gone through put ahead, a program that may be may be, so much farther. -/
import Derived.Test.YtibghcmkmbamjaaGNext
namespace Go.Proofs.Ytibghcmkmbamjaa
set_option linter.unusedVariables false
set_option linter.unusedSimpArgs false
def mv (k : Nat) (l : List Ins) : List Ins := List.replicate k movI ++ l
theorem fm_congr {f g : Int → Option Int} : ∀ (l : List Int), (∀ a ∈ l, f a = g a) → l.filterMap f = l.filterMap g
  | [], _ => rfl
  | a :: l, h => by rw [List.filterMap_cons, List.filterMap_cons, h a (by simp), fm_congr l (fun b hb => h b (by simp [hb]))]
section
variable {k : Nat} {l : List Ins}
theorem mv_len : (mv k l).length = k + l.length := by simp [mv]
theorem mv_lo {i : Nat} (h : i < k) : (mv k l)[i]? = some movI := by
  unfold mv
  rw [List.getElem?_append_left (by simpa using h), List.getElem?_replicate, if_pos h]
theorem mv_hi (i : Nat) : (mv k l)[k + i]? = l[i]? := by
  unfold mv
  rw [List.getElem?_append_right (by simp)]
  simp
theorem mv_at {a : Int} (h : 0 ≤ a) : (mv k l)[(a + k).toNat]? = l[a.toNat]? := by
  rw [show (a + k).toNat = k + a.toNat by omega]
  exact mv_hi _
theorem mov_kind : movI.kind ≠ 0 ∧ movI.kind ≠ 5 ∧ movI.kind ≠ 7 ∧ movI.kind ≠ 8 ∧ movI.kind ≠ 9 ∧ movI.kind ≠ 10 := by decide +kernel
theorem kindP_lo {a : Int} (h0 : 0 ≤ a) (h1 : a < k) : kindP (mv k l) a = movI.kind := by
  unfold kindP
  rw [if_pos h0, mv_lo (by omega)]
theorem kindP_hi {a : Int} (h : 0 ≤ a) : kindP (mv k l) (a + k) = kindP l a := by
  unfold kindP
  rw [if_pos (by omega), if_pos h, mv_at h]
theorem offP_hi {a : Int} (h : 0 ≤ a) : offP (mv k l) (a + k) = offP l a := by unfold offP; rw [mv_at h]
theorem immP_hi {a : Int} (h : 0 ≤ a) : immP (mv k l) (a + k) = immP l a := by unfold immP; rw [mv_at h]
theorem srcP_hi {a : Int} (h : 0 ≤ a) : srcP (mv k l) (a + k) = srcP l a := by unfold srcP; rw [mv_at h]
theorem secondP_hi {a : Int} (h : 0 ≤ a) : secondP (mv k l) (a + k) = secondP l a := by unfold secondP; rw [mv_at h]
theorem nextP_lo {a : Int} (h0 : 0 ≤ a) (h1 : a < k) : nextP (mv k l) a = [a + 1] := by
  obtain ⟨n0, n5, n7, n8, n9, n10⟩ := mov_kind
  unfold nextP
  rw [kindP_lo h0 h1, if_neg (by simp [n0, n8]), if_neg n10, if_neg n5]
  simp [szK, n9]
theorem nextP_hi {a : Int} (h : 0 ≤ a) : nextP (mv k l) (a + k) = (nextP l a).map (· + (k : Int)) := by
  unfold nextP
  rw [kindP_hi h, offP_hi h]
  split
  · rfl
  · split
    · simp; omega
    · split
      · split
        · simp; omega
        · split
          · simp; omega
          · simp; omega
      · simp; omega
theorem calleeP_lo {a : Int} (h0 : 0 ≤ a) (h1 : a < k) : calleeP (mv k l) a = none := by
  obtain ⟨n0, n5, n7, n8, n9, n10⟩ := mov_kind
  unfold calleeP
  rw [kindP_lo h0 h1, if_neg n7, if_neg (by simp [n9])]
theorem calleeP_hi {a : Int} (h : 0 ≤ a) : calleeP (mv k l) (a + k) = (calleeP l a).map (· + (k : Int)) := by
  unfold calleeP
  rw [kindP_hi h, srcP_hi h, immP_hi h]
  split
  · simp; omega
  · split
    · simp; omega
    · rfl
theorem allF_hi : ∀ (f : Nat) (a : Int), 0 ≤ a → allF (mv k l) f (a + k) = (allF l f a).map (· + (k : Int))
  | 0, a, _ => rfl
  | f + 1, a, h => by
    rw [allF, allF, mv_len, kindP_hi h]
    by_cases h1 : a < (l.length : Int)
    · rw [if_pos (by push_cast; omega), if_pos h1, List.map_cons]
      have hs := szK_pos (kindP l a)
      rw [← allF_hi f (a + szK (kindP l a)) (by omega)]
      congr 2
      omega
    · rw [if_neg (by push_cast; omega), if_neg h1]
      rfl
theorem allF_lo (hn : 0 < l.length) : ∀ j : Nat, j ≤ k → ∃ lo : List Int, allF (mv k l) (j + l.length) ((k : Int) - j) = lo ++ allF (mv k l) l.length (k : Int) ∧ ∀ x, x ∈ lo ↔ (k : Int) - j ≤ x ∧ x < k
  | 0, _ => ⟨[], by simp, fun x => by simp <;> omega⟩
  | j + 1, h => by
    obtain ⟨lo, h1, h2⟩ := allF_lo hn j (by omega)
    obtain ⟨n0, n5, n7, n8, n9, n10⟩ := mov_kind
    refine ⟨((k : Int) - (j + 1 : Nat)) :: lo, ?_, fun x => ?_⟩
    · rw [show j + 1 + l.length = (j + l.length) + 1 by omega, allF, mv_len, if_pos (by push_cast; omega), kindP_lo (by omega) (by omega)]
      have : szK movI.kind = 1 := by simp [szK, n9]
      rw [this, show (k : Int) - ((j + 1 : Nat) : Int) + 1 = (k : Int) - j by omega, h1]
      rfl
    · rw [List.mem_cons, h2]
      omega
theorem allP_mv (hn : 0 < l.length) : ∃ lo : List Int, allP (mv k l) = lo ++ (allP l).map (· + (k : Int)) ∧ ∀ x, x ∈ lo ↔ 0 ≤ x ∧ x < (k : Int) := by
  obtain ⟨lo, h1, h2⟩ := allF_lo hn k (Nat.le_refl _)
  refine ⟨lo, ?_, fun x => by rw [h2]; omega⟩
  unfold allP
  have e := allF_hi (k := k) (l := l) l.length 0 (Int.le_refl 0)
  rw [Int.zero_add] at e
  rw [mv_len, ← e, ← h1]
  congr 1
  omega
theorem mem_allP_mv (hn : 0 < l.length) (x : Int) : x ∈ allP (mv k l) ↔ (0 ≤ x ∧ x < (k : Int)) ∨ ∃ y ∈ allP l, x = y + k := by
  obtain ⟨lo, h1, h2⟩ := allP_mv (k := k) hn
  rw [h1, List.mem_append, h2, List.mem_map]
  constructor
  · rintro (h | ⟨y, hy, rfl⟩)
    · exact .inl h
    · exact .inr ⟨y, hy, rfl⟩
  · rintro (h | ⟨y, hy, rfl⟩)
    · exact .inl h
    · exact .inr ⟨y, hy, rfl⟩
theorem pairs_shift (n : Int) : ∀ S : List Int, pairsP (n + k) (S.map (· + (k : Int))) = (pairsP n S).map fun s => (s.1 + (k : Int), s.2 + (k : Int))
  | [] => rfl
  | [a] => rfl
  | a :: b :: r => by
    have := pairs_shift n (b :: r)
    simp only [List.map_cons] at this ⊢
    simp only [pairsP, List.map_cons, this]
theorem pairs_head (n : Int) (R : List Int) (i : Nat) (s : Int × Int) (h : (pairsP n (0 :: R))[i]? = some s) : (pairsP (n + k) (0 :: R.map (· + (k : Int))))[i]? = some (if i = 0 then 0 else s.1 + k, s.2 + k) := by
  cases R with
  | nil =>
    cases i with
    | zero => simp [pairsP] at h ⊢; subst h; simp
    | succ i => simp [pairsP] at h
  | cons r R =>
    have hs := pairs_shift (k := k) n (r :: R)
    simp only [List.map_cons] at hs ⊢
    cases i with
    | zero => simp [pairsP] at h ⊢; subst h; simp
    | succ i =>
      simp only [pairsP, List.getElem?_cons_succ] at h ⊢
      rw [hs, List.getElem?_map, h]
      simp
theorem mv_straight (h : Straight l) : Straight (mv k l) := by
  refine ⟨by rw [mv_len]; have := h.pos; omega, fun a ha => ?_, fun a ha => ?_⟩
  · obtain ⟨n0, n5, n7, n8, n9, n10⟩ := mov_kind
    rcases (mem_allP_mv h.pos a).1 ha with ⟨h0, h1⟩ | ⟨y, hy, rfl⟩
    · unfold wholeP
      rw [kindP_lo h0 h1]
      simp [n0, n9]
    · have hb := allP_bd hy
      have hw := h.whole y hy
      unfold wholeP at hw ⊢
      rw [kindP_hi hb.1, show y + (k : Int) + 1 = (y + 1) + k by omega, secondP_hi (by omega)]
      exact hw
  · have hz : (k : Int) ∈ allP (mv k l) := (mem_allP_mv h.pos _).2 (.inr ⟨0, allP_zero h.pos, by omega⟩)
    rcases (mem_allP_mv h.pos a).1 ha with ⟨h0, h1⟩ | ⟨y, hy, rfl⟩
    · unfold straysP
      rw [nextP_lo h0 h1, calleeP_lo h0 h1]
      have h2 : a + 1 ∈ allP (mv k l) := by
        by_cases e : a + 1 < (k : Int)
        · exact (mem_allP_mv h.pos _).2 (.inl ⟨by omega, e⟩)
        · rw [show a + 1 = (k : Int) by omega]; exact hz
      simp [lostP, h2]
      omega
    · have hb := allP_bd hy
      have hs := h.strays y hy
      unfold straysP at hs ⊢
      rw [nextP_hi hb.1, calleeP_hi hb.1, kindP_hi hb.1, show y + (k : Int) + 1 = (y + 1) + k by omega, immP_hi (by omega)]
      rw [Bool.or_eq_false_iff] at hs ⊢
      refine ⟨?_, ?_⟩
      · rw [List.any_eq_false]
        intro t ht
        obtain ⟨u, hu, rfl⟩ := List.mem_map.1 ht
        have := h.next hy hu
        unfold lostP
        rw [mv_len]
        simp only [Bool.or_eq_true, decide_eq_true_eq, Bool.and_eq_true, Bool.not_eq_true', decide_eq_false_iff_not]
        rintro (g | ⟨g1, g2⟩)
        · omega
        · exact g2 ((mem_allP_mv h.pos _).2 (.inr ⟨u, this.2 (by push_cast at g1; omega), rfl⟩))
      · cases hc : calleeP l y with
        | none => rfl
        | some t =>
          have ht := h.callee hy hc
          rw [hc] at hs
          have hm : t + (k : Int) ∈ allP (mv k l) := (mem_allP_mv h.pos _).2 (.inr ⟨t, ht, rfl⟩)
          have h2 := hs.2
          simp only [ht, decide_true, Bool.not_true, Bool.false_or] at h2
          simp only [Option.map_some, hm, decide_true, Bool.not_true, Bool.false_or]
          exact h2
theorem starts_head (h : Straight l) : ∃ R, startsP l = 0 :: R ∧ ∀ r ∈ R, 0 < r := by
  have hr := h.rows.zero
  have hri : Rising (startsP l) := riseU_rising _
  cases hs : startsP l with
  | nil => rw [hs] at hr; simp at hr
  | cons a R =>
    rw [hs] at hr hri
    simp at hr; subst hr
    exact ⟨R, rfl, (List.pairwise_cons.1 hri).1⟩
theorem starts_mv (h : Straight l) (h0 : ∀ a ∈ allP l, calleeP l a ≠ some 0) {R : List Int} (hR : startsP l = 0 :: R) (hp : ∀ r ∈ R, 0 < r) : startsP (mv k l) = 0 :: R.map (· + (k : Int)) := by
  have hri : Rising (0 :: R) := hR ▸ riseU_rising _
  have hR2 := (List.pairwise_cons.1 hri).2
  have hm : ∀ x, x ∈ R ↔ ∃ a ∈ allP l, calleeP l a = some x := fun x => by
    have := starts_mem (l := l) x
    rw [hR, List.mem_cons] at this
    constructor
    · intro hx
      rcases this.1 (.inr hx) with e | e
      · have := hp x hx; omega
      · exact e
    · intro hx
      rcases this.2 (.inr hx) with e | e
      · obtain ⟨a, ha, hc⟩ := hx
        exact absurd (e ▸ hc) (h0 a ha)
      · exact e
  refine Rising.eq (riseU_rising _) ?_ fun x => ?_
  · refine List.pairwise_cons.2 ⟨fun y hy => ?_, ?_⟩
    · obtain ⟨r, hr, rfl⟩ := List.mem_map.1 hy
      have := hp r hr; omega
    · rw [List.pairwise_map]
      exact hR2.imp fun h => by omega
  · show x ∈ startsP (mv k l) ↔ _
    rw [starts_mem, List.mem_cons, List.mem_map]
    constructor
    · rintro (e | ⟨a, ha, hc⟩)
      · exact .inl e
      · rcases (mem_allP_mv h.pos a).1 ha with ⟨g0, g1⟩ | ⟨y, hy, rfl⟩
        · rw [calleeP_lo g0 g1] at hc; cases hc
        · rw [calleeP_hi (allP_bd hy).1] at hc
          cases ho : calleeP l y with
          | none => rw [ho] at hc; cases hc
          | some t =>
            rw [ho] at hc
            simp only [Option.map_some, Option.some.injEq] at hc
            exact .inr ⟨t, (hm t).2 ⟨y, hy, ho⟩, hc⟩
    · rintro (e | ⟨r, hr, rfl⟩)
      · exact .inl e
      · obtain ⟨a, ha, hc⟩ := (hm r).1 hr
        exact .inr ⟨a + k, (mem_allP_mv h.pos _).2 (.inr ⟨a, ha, rfl⟩), by rw [calleeP_hi (allP_bd ha).1, hc]; rfl⟩
theorem subs_mv (h : Straight l) (h0 : ∀ a ∈ allP l, calleeP l a ≠ some 0) {i : Nat} {s : Int × Int} (hi : (subsP l)[i]? = some s) : (subsP (mv k l))[i]? = some (if i = 0 then 0 else s.1 + k, s.2 + k) := by
  obtain ⟨R, hR, hp⟩ := starts_head h
  unfold subsP at hi ⊢
  rw [hR] at hi
  rw [starts_mv h h0 hR hp, mv_len]
  have := pairs_head (k := k) _ R i s hi
  rw [show ((k + l.length : Nat) : Int) = (l.length : Int) + k by omega]
  exact this
theorem subs_mv_len (h : Straight l) (h0 : ∀ a ∈ allP l, calleeP l a ≠ some 0) : (subsP (mv k l)).length = (subsP l).length := by
  obtain ⟨R, hR, hp⟩ := starts_head h
  rw [subs_len, subs_len, starts_mv h h0 hR hp, hR]
  simp
theorem of_mv (h : Straight l) (h0 : ∀ a ∈ allP l, calleeP l a ≠ some 0) {a : Int} (ha : 0 ≤ a ∧ a < (l.length : Int)) : ofP (subsP (mv k l)) (a + k) = ofP (subsP l) a := by
  obtain ⟨i, s, hi, hs⟩ := h.rows.cover ha.1 ha.2
  have e1 : ofP (subsP l) a = i := h.rows.of hi hs
  have hm := subs_mv (k := k) h h0 hi
  have hr := (mv_straight (k := k) h).rows
  have e2 : ofP (subsP (mv k l)) (a + k) = i := hr.of hm (by
    have := h.rows.sub hi
    by_cases e : i = 0
    · simp only [e, if_true]; omega
    · simp only [e, if_false]; omega)
  rw [e1, e2]
theorem of_mv_lo (h : Straight l) (h0 : ∀ a ∈ allP l, calleeP l a ≠ some 0) {a : Int} (ha : 0 ≤ a ∧ a ≤ (k : Int)) : ofP (subsP (mv k l)) a = 0 := by
  obtain ⟨i, s, hi, hs⟩ := h.rows.cover (a := 0) (by omega) (by have := h.pos; omega)
  have hpos := h.pos
  have hz := h.rows.zero
  have hsub := h.rows.sub hi
  have hi0 : i = 0 := by
    obtain ⟨R, hR, hp⟩ := starts_head h
    have h1 := (pairs_get _ _ _ _ hi).1
    cases i with
    | zero => rfl
    | succ i =>
      rw [hR, List.getElem?_cons_succ] at h1
      have := hp _ (List.mem_of_getElem? h1)
      omega
  subst hi0
  have hm := subs_mv (k := k) h h0 hi
  exact (mv_straight (k := k) h).rows.of hm (by simp only [if_true]; omega)
theorem calls_mv (h : Straight l) (h0 : ∀ a ∈ allP l, calleeP l a ≠ some 0) : callsP (mv k l) (subsP (mv k l)) = callsP l (subsP l) := by
  funext j
  obtain ⟨lo, h1, h2⟩ := allP_mv (k := k) h.pos
  unfold callsP
  rw [h1, List.filterMap_append, List.filterMap_map]
  have e0 : ∀ f : Int → Option Int, (∀ a ∈ lo, f a = none) → lo.filterMap f = [] := fun f h => List.filterMap_eq_nil_iff.2 h
  rw [e0 _ (fun a ha => by have := (h2 a).1 ha; simp only [calleeP_lo this.1 this.2]), List.nil_append]
  refine fm_congr _ fun a ha => ?_
  have hb := allP_bd ha
  simp only [Function.comp_apply]
  rw [calleeP_hi hb.1, kindP_hi hb.1, of_mv h h0 hb]
  cases hc : calleeP l a with
  | none => rfl
  | some t =>
    have ht := allP_bd (h.callee ha hc)
    simp only [Option.map_some]
    rw [of_mv h h0 ht]
theorem comes_mv (h : Kept l) {t y : Int} (hc : Comes (nextP l) t y) (ht : t ∈ allP l) : Comes (nextP (mv k l)) (t + k) (y + k) := by
  induction hc with
  | here => exact .here _
  | step h1 _ ih =>
    have hn := h.next ht h1
    refine .step ?_ (ih hn.1)
    rw [nextP_hi (allP_bd ht).1]
    exact List.mem_map.2 ⟨_, h1, rfl⟩
theorem comes_lo : ∀ j : Nat, j ≤ k → Comes (nextP (mv k l)) 0 (j : Int)
  | 0, _ => .here _
  | j + 1, h => (comes_lo j (by omega)).trans (.step (by rw [nextP_lo (by omega) (by omega)]; simp) (.here _))
theorem mv_fine (h : Fine l) (h0 : ∀ a ∈ allP l, calleeP l a ≠ some 0) (hk : k + l.length ≤ 1024) : Fine (mv k l) := by
  have hS := h.toStraight
  have hSm := mv_straight (k := k) hS
  have hL : ∀ a ∈ allP (mv k l), leavesP (mv k l) (subsP (mv k l)) a = false := by
    intro a ha
    unfold leavesP
    rw [List.any_eq_false]
    intro t ht
    simp only [Bool.not_eq_true', decide_eq_false_iff_not, Decidable.not_not]
    rcases (mem_allP_mv hS.pos a).1 ha with ⟨g0, g1⟩ | ⟨y, hy, rfl⟩
    · rw [nextP_lo g0 g1, List.mem_singleton] at ht
      subst ht
      rw [of_mv_lo hS h0 ⟨g0, by omega⟩, of_mv_lo hS h0 ⟨by omega, by omega⟩]
    · have hb := allP_bd hy
      rw [nextP_hi hb.1] at ht
      obtain ⟨u, hu, rfl⟩ := List.mem_map.1 ht
      have hn := h.toKept.next hy hu
      rw [of_mv hS h0 hb, of_mv hS h0 (allP_bd hn.1)]
      exact hn.2
  have hK : Kept (mv k l) := { toStraight := hSm, leaves := hL }
  refine { toKept := hK, le := by rw [mv_len]; omega, few := by rw [subs_mv_len hS h0]; exact h.few, reach := fun x hx => ?_, loops := fun j hj => ?_ }
  · rw [hK.mem_seenN]
    have z : (0 : Int) ∈ startsP (mv k l) := (starts_mem 0).2 (.inl rfl)
    rcases (mem_allP_mv hS.pos x).1 hx with ⟨g0, g1⟩ | ⟨y, hy, rfl⟩
    · have := comes_lo (k := k) (l := l) x.toNat (by omega)
      rw [show (x.toNat : Int) = x by omega] at this
      exact ⟨0, z, this⟩
    · obtain ⟨t, ht, hc⟩ := (h.toKept.mem_seenN y).1 (h.reach y hy)
      have hm := comes_mv (k := k) h.toKept hc (hS.starts ht)
      rcases (starts_mem t).1 ht with rfl | ⟨a, ha, hca⟩
      · rw [Int.zero_add] at hm
        exact ⟨0, z, (comes_lo k (Nat.le_refl _)).trans hm⟩
      · exact ⟨t + k, (starts_mem _).2 (.inr ⟨a + k, (mem_allP_mv hS.pos _).2 (.inr ⟨a, ha, rfl⟩), by rw [calleeP_hi (allP_bd ha).1, hca]; rfl⟩), hm⟩
  · rw [hSm.mem_seenC, calls_mv hS h0, ← hS.mem_seenC]
    exact h.loops j (by rw [subs_mv_len hS h0] at hj; exact hj)
end
end Go.Proofs.Ytibghcmkmbamjaa
