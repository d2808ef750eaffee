/- owns: Depth, whole. -/
import Derived.Test.YtojjjkeciiieeaaODepth2
namespace Go.Proofs.Ytojjjkeciiieeaa
open Go.RowKit
set_option linter.unusedVariables false
set_option linter.unusedSimpArgs false
set_option linter.unusedSectionVars false
/-- What Depth tells. -/
def DepthIs (t : Tab) (i d : Int) : Prop := (¬ (0 ≤ i ∧ i < (t.length : Int)) ∧ d = -1) ∨ ((0 ≤ i ∧ i < (t.length : Int)) ∧ ¬ Fine (adj t) i ∧ d = -1) ∨ ((0 ≤ i ∧ i < (t.length : Int)) ∧ Fine (adj t) i ∧ d = (dp t i : Int))
theorem SepK.newR {R : Res} [Good R] {w w' : World} (H : SepK w w' [] (star R emp)) : ∃ M, R w' M ∧ ∀ b, M b → w.heap.size ≤ b := by
  obtain ⟨u, A, B, h1, ⟨C, D, g1, g2, g3, g4, g5⟩, h3, h4, h5⟩ := H
  exact ⟨C, g1, fun b hb => h4 b (g3 b hb)⟩
def DepthDid (t : Tab) (i : Int) (w : World) (e : Ending) (w' : World) : Prop := ∃ d, e = .returned (.int .i64 d) ∧ DepthIs t i d ∧ Upd [] w w'
set_option maxRecDepth 100000 in
set_option maxHeartbeats 4000000 in
theorem depth17 {t : Tab} {v : Value} {w : World} (hT : TabAt w v t) (hF : Fits t) (i : Int) : Calls Try.prog 17 #[v, .int .i64 i] w (DepthDid t i w) := by
  have htl := hF.1
  obtain ⟨A, c, rfl, -⟩ := id hT
  have hmm := @run_makeMap Try.prog
  have hst := store_func
  have H0 := (SepK.start w).alloc (capL (.slice A t.length c))
  have f0 := H0.blk List.mem_cons_self
  have c0 := cell_of f0 0
  have l0 := lt_of_heap f0
  simp only [List.getElem?_toArray, List.getElem?_cons_zero] at c0
  clear f0
  by_cases hi : 0 ≤ i ∧ i < (t.length : Int)
  · go_enter Try.func17, Try.ntmps17
    go_wp2_with fail
    refine (there_yes _ _ _ _ _ hi.1 hi.2).mono ?_
    rintro e w1 ⟨rfl, rfl⟩
    go_wp2_with fail
    refine (check10 (hT.keep H0.u) hF).mono ?_
    rintro e w2 hd
    obtain ⟨s, L, rfl, hNew, hL⟩ := (Iff.of_eq (CheckDid.eq_1 ..)).1 hd
    have H1 := H0.more hNew.2 hNew.1 (fun b hb => hb)
    obtain ⟨A5, c5, rfl, -⟩ := H1.row
    rw [List.length_map] at H1 ⊢
    have H2 := H1.alloc (capR A5 L.length c5)
    have hLl := hL.len
    clear c0 l0
    have f1 := H1.blk List.mem_cons_self
    have c0 := cell_of f1 0
    have l0 := lt_of_heap f1
    simp only [List.getElem?_toArray, List.getElem?_cons_zero] at c0
    clear hd hNew H1 H0 f1
    generalize (if L = [] then 0 else 110 : Int) = ee
    generalize hb2 : w.heap.size = b2 at *
    generalize hb5 : w2.heap.size = b5 at *
    go_wp2_with fail
    refine (reach21 (hT.keep H2.u) hF i).mono ?_
    rintro e w4 ⟨mb, S, rfl, HS, hR⟩
    obtain ⟨M, hM1, hM2⟩ := HS.newR
    have H3 := H2.more HS.u hM1 hM2
    have hSl : S.length ≤ t.length := nodup_range hR.1 fun x hx => ((hR.2 x).1 hx).within (adj_within t)
    clear c0 l0 H2 HS hM1 hM2 hb5
    have f5 := H3.blk (b := b5) List.mem_cons_self
    have c5' := cell_of f5 0
    have l5 := lt_of_heap f5
    simp only [List.getElem?_toArray, List.getElem?_cons_zero] at c5'
    obtain ⟨A5', c5'', e5, hr5⟩ := H3.tl.row
    rw [List.length_map] at e5
    cases e5
    have hmap := H3.map
    go_wp2_with fail
    refine (contains29 A5 c5 L i w4 hr5 (by omega)).mono ?_
    by_cases hiL : i ∈ L
    · rw [decide_eq_true hiL]
      have hnf : ¬ Fine (adj t) i := fun h => h.1 ((hL.2 i).1 hiL).2
      rintro e w5 ⟨rfl, rfl⟩
      go_wp2_with fail
      go_ret
      exact (Iff.of_eq (DepthDid.eq_1 ..)).2 ⟨-1, rfl, .inr (.inl ⟨hi, hnf, rfl⟩), H3.u⟩
    · rw [decide_eq_false hiL]
      rintro e w5 ⟨rfl, rfl⟩
      go_wp2_with fail
      refine (keys32 (some mb) w4).mono ?_
      rintro e w5 ⟨rfl, rfl⟩
      go_wp2_with fail
      refine (collect31 hmap (by omega)).mono ?_
      rintro e w6 hd
      obtain ⟨s2, l2, rfl, hNew2, hl2, hm2⟩ := (Iff.of_eq (CollectDid.eq_1 ..)).1 hd
      obtain ⟨A6, c6, rfl, hr6⟩ := hNew2.look
      have H4 := H3.upd hNew2.2
      have hr5' := hr5.keep hNew2.2
      have f6 := H4.blk (b := b5) List.mem_cons_self
      clear hd hNew2 H3 hmap hr5 c5' l5 f5
      go_wp2_with fail
      refine (containsf30 A6 A5 c6 c5 l2 L w6 b5 f6 hr5' (by omega) hr6 hl2).mono ?_
      cases hany : (l2.any fun x => decide (x ∈ L)) with
      | true =>
        have hnf : ¬ Fine (adj t) i := fun h => by
          rw [List.any_eq_true] at hany
          obtain ⟨x, hx, hxL⟩ := hany
          exact h.2 x ((hR.2 x).1 ((hm2 x).1 hx)) ((hL.2 x).1 (of_decide_eq_true hxL)).2
        rintro e w7 ⟨rfl, rfl⟩
        go_wp2_with fail
        go_ret
        exact (Iff.of_eq (DepthDid.eq_1 ..)).2 ⟨-1, rfl, .inr (.inl ⟨hi, hnf, rfl⟩), H4.u⟩
      | false =>
        have hfine : Fine (adj t) i := by
          refine ⟨fun h => hiL ((hL.2 i).2 ⟨hi, h⟩), fun k hk hkk => ?_⟩
          have h1 := (hm2 k).2 ((hR.2 k).2 hk)
          have h2 := (hL.2 k).2 ⟨hk.within (adj_within t), hkk⟩
          have := List.any_eq_false.1 hany k h1
          simp [h2] at this
        rintro e w7 ⟨rfl, rfl⟩
        have H5 := (H4.tl.tl).map0 (Value.int .i64) (Value.int .i64) okI
        have H6 := H5.alloc (capD w6.heap.size)
        rw [alloc_size] at H6
        have H7 := H6.alloc (capO (w6.heap.size + 1) b2 (w6.heap.size + 1 + 1))
        rw [alloc_size, alloc_size] at H7
        clear hany hm2 hiL hr5' f6 H4 H5 H6 hr6
        go_wp2_with fail
        refine (of34 (b8 := w6.heap.size + 1) (b2 := b2) (b9 := w6.heap.size + 1 + 1) (mb := w6.heap.size) hT hF (by simp) (by simp) (by simp) (dp t i + 1) emp i [] _ hi hfine (by omega) (fun k v h => by cases h) H7).mono ?_
        rintro e w8 hd
        obtain ⟨rfl, M', H8, -⟩ := (Iff.of_eq (OfDid.eq_1 ..)).1 hd
        go_wp2_with fail
        go_ret
        exact (Iff.of_eq (DepthDid.eq_1 ..)).2 ⟨_, rfl, .inr (.inr ⟨hi, hfine, rfl⟩), H8.u⟩
  · go_enter Try.func17, Try.ntmps17
    go_wp2_with fail
    refine (there_no _ _ _ _ _ hi).mono ?_
    rintro e w1 ⟨rfl, rfl⟩
    go_wp2_with fail
    go_ret
    exact (Iff.of_eq (DepthDid.eq_1 ..)).2 ⟨-1, rfl, .inl ⟨hi, rfl⟩, H0.u⟩
end Go.Proofs.Ytojjjkeciiieeaa
