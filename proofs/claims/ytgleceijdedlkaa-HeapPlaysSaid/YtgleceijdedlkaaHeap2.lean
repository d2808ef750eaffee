/- The heap of objects: Make, Free. -/
import Derived.Test.YtgleceijdedlkaaHeap
import Derived.OpenShut
namespace Go.Proofs.Ytgleceijdedlkaa
open Go.RowKit
set_option linter.unusedVariables false
set_option linter.unusedSimpArgs false
theorem wf_u64 (x : Int) : (Lit.int .u64 (IntKind.u64.wrap x)).wf = true := by first | exact Go.wf_wrap .u64 x | exact Go.RowKit.wf_wrap .u64 x | exact wf_wrap .u64 x
theorem isSome_aput {K V : Type} [DecidableEq K] (l : List (K × V)) (x y : K) (v : V) : (aget (aput l x v) y).isSome = (decide (x = y) || (aget l y).isSome) := by
  rw [aget_aput]
  split
  · rename_i h; simp [h]
  · rename_i h; simp [h]
set_option maxRecDepth 100000 in
set_option maxHeartbeats 4000000 in
theorem HMake_ok (w : World) (B : HB) (room used kind n : Int) (l : Slots) (L : Lasts) (V : Lives) (O : Objs) (h : HeapAt w B room used l L V O) (hn : okc n = true) (hr : used + cls n ≤ room) (h0 : 0 ≤ used) (h1 : room ≤ 65536) (hl : l.length ≤ 100000) :
    Calls Try.prog 30 #[.pointer (some ⟨B.x, 0, none⟩), .int .i64 kind, .int .i64 n] w fun e w' => ∃ (k g p : Nat), e = .returned (.tuple #[.agg #[.int .i64 (k : Int), .int .u64 (genOf L k)], .int .i64 0]) ∧ (∀ j : Nat, j < k → (j : Int) ∈ l.map (·.1)) ∧ (k : Int) ∉ l.map (·.1) ∧
      HeapAt w' B room (used + cls n) (aput l (k : Int) (g, List.replicate n.toNat 0)) (aput L (k : Int) (genOf L k)) (aput V (k : Int) ((k : Int), genOf L k)) (aput O ((k : Int), genOf L k) (p, (1, kind))) ∧ w.heap.size ≤ g ∧ w.heap.size ≤ p ∧ Upd [B.s, B.bm, B.bl, B.bv, B.bo] w w' := by
  have e122 := en122
  have hb := h.keep (box_upd w 0 0)
  have c0 := h.c0
  have c2 := h.c2
  have lt := h.lts
  have ltx := lt_of_heap h.cells
  go_enter Try.func30, Try.ntmps30
  go_wp2_with fail
  refine (Take_ok _ _ _ room used n l hb.slab hn hr h0 h1 hl).mono ?_
  rintro e w1 ⟨k, g, rfl, p1, p2, hs1, hg1, u1⟩
  have hxs := h.fx
  have hss := h.fs
  have htt := h.ft
  have hb1 : TableAt w1 B.t B.bl B.bv L V := hb.tab.kept u1 (by simp; omega) (by simp; omega) (by simp; omega)
  have hm1 : MapAt eh eo okH w1 B.bo O := hb.map.kept u1 (by simp; omega)
  have hx1 := u1.heap hb.cells (by simp; omega)
  have hR1 := u1.heap (heap_alloc_new w (.cells #[.int .i64 0, .int .u64 0] 30)) (by have := h.slab.lts; simp; omega)
  have q0 := cell_of hx1 1
  have q1 := cell_of hx1 2
  simp only [List.getElem?_toArray, List.getElem?_cons_zero, List.getElem?_cons_succ] at q0 q1
  have hlk : aget l (k : Int) = none := (aget_none_iff l _).2 p2
  have hVk : aget V (k : Int) = none := by
    have := h.inv1 (k : Int)
    rw [hlk] at this
    cases hv : aget V (k : Int) with
    | none => rfl
    | some y => rw [hv] at this; cases this
  have hkI : okI (k : Int) := by
    have := pigeon k _ p1
    rw [List.length_map] at this
    exact WalkArith.wf_i64 (by omega)
  rw [alloc_size] at hg1
  have sz1 := u1.size1
  go_wp2_with fail
  refine (Make_new _ _ _ _ L V (k : Int) hb1 hkI (by omega) hVk).mono ?_
  rintro e w2 ⟨rfl, ht2, u2⟩
  have hgen : okH ((k : Int), genOf L k) := ⟨hkI, wf_u64 _⟩
  have hOk : aget O ((k : Int), genOf L k) = none := by
    cases ho : aget O ((k : Int), genOf L k) with
    | none => rfl
    | some y =>
      have := (h.inv2 ((k : Int), genOf L k)).1 (by rw [ho]; rfl)
      simp only at this
      rw [hVk] at this
      cases this
  generalize hG : genOf L (k : Int) = G at *
  have HG : Hid (genOf L (k : Int) = G) := hG
  clear hG
  have hs2 := hs1.kept u2 (by simp; omega) (by simp; omega) (fun p hp => by
    rcases List.mem_append.1 hp with hp | hp
    · have := h.sl p hp; simp; omega
    · obtain rfl := List.mem_singleton.1 hp
      have := h.tab.lts; simp; omega)
  have hm2 := hm1.kept u2 (by simp; omega)
  have hx2 := u2.heap hx1 (by simp; omega)
  have hR2 := u2.heap hR1 (by have := h.tab.lts; simp; omega)
  have sz2 := u2.size
  have U2 : Upd [B.s, B.bm, B.bl, B.bv, B.bo] w w2 := ((((box_upd w 0 0).mono (by simp)).step u1 (by simp)).step u2 (by simp))
  clear q0 q1 hb1 hm1 hx1 hR1 u1 u2 hs1 hb
  have q1 := cell_of hx2 2
  have q2 := cell_of hR2 0
  have q3 := cell_of hR2 1
  have f2 := frozen_of hR2 0
  have f3 := frozen_of hR2 1
  simp only [List.getElem?_toArray, List.getElem?_cons_zero, List.getElem?_cons_succ] at q1 q2 q3
  have lx2 := lt_of_heap hx2
  have lR2 := lt_of_heap hR2
  unfold eh
  have hH : MapAt eh eo okH (((w2.alloc (.cells #[.int .i64 (k : Int), .int .u64 G] 30 (0, 0))).alloc (.cells #[.int .i64 1, .int .i64 kind] 129 (0, 0))).drew) B.bo O := ((hm2.alloc _).alloc _).drew
  obtain ⟨w3, hrun0, m3, u3, z3⟩ := hH.update kh Try.underlying122 hgen (w2.heap.size + 1, ((1 : Int), kind))
  have hrun : (Instr.mapUpdate 122 (.map (some B.bo)) (.agg #[.int .i64 (k : Int), .int .u64 G]) (.pointer (some ⟨w2.heap.size + 1, 0, none⟩))).run Try.prog (((w2.alloc (.cells #[.int .i64 (k : Int), .int .u64 G] 30 (0, 0))).alloc (.cells #[.int .i64 1, .int .i64 kind] 129 (0, 0))).drew) = .ok () w3 := hrun0
  have X3 : Upd [B.bo] w2 w3 := ((((Upd.refl [B.bo] w2).alloc (.cells #[.int .i64 (k : Int), .int .u64 G] 30 (0, 0))).alloc (.cells #[.int .i64 1, .int .i64 kind] 129 (0, 0))).drew).step u3 (by simp)
  have lbo := hm2.lt
  have hT3 : w3.heap[w2.heap.size]? = some (.cells #[.int .i64 (k : Int), .int .u64 G] 30 (0, 0)) := u3.heap (w := (((w2.alloc (.cells #[.int .i64 (k : Int), .int .u64 G] 30 (0, 0))).alloc (.cells #[.int .i64 1, .int .i64 kind] 129 (0, 0))).drew)) (heap_alloc_old (heap_alloc_new w2 _) _) (by simp; omega)
  have hO3 : w3.heap[w2.heap.size + 1]? = some (.cells #[.int .i64 1, .int .i64 kind] 129 (0, 0)) := u3.heap (w := (((w2.alloc (.cells #[.int .i64 (k : Int), .int .u64 G] 30 (0, 0))).alloc (.cells #[.int .i64 1, .int .i64 kind] 129 (0, 0))).drew)) (by
    have := heap_alloc_new (w2.alloc (.cells #[.int .i64 (k : Int), .int .u64 G] 30 (0, 0))) (.cells #[.int .i64 1, .int .i64 kind] 129 (0, 0))
    rw [alloc_size] at this
    exact this) (by simp; omega)
  have hR3 := X3.heap hR2 (by have := h.map.lt; simp; omega)
  have g0 := cell_of hT3 0
  have g1 := cell_of hT3 1
  have g2 := cell_of hR3 0
  have g3 := cell_of hR3 1
  have f4 := frozen_of hR3 0
  have f5 := frozen_of hR3 1
  simp only [List.getElem?_toArray, List.getElem?_cons_zero, List.getElem?_cons_succ] at g0 g1 g2 g3
  clear hrun0 hH u3 z3
  go_wp2_with fail
  go_region
  all_goals go_wp2_with fail
  all_goals
    have X4 := (((Upd.refl [w.heap.size] w3).setCell ⟨w.heap.size, 0, none⟩ (Value.int .i64 (k : Int)) (.inl (by simp))).setCell ⟨w.heap.size, 1, none⟩ (Value.int .u64 G) (.inl (by simp)))
    have hG := HG.out
    refine bodyPost_ret (v := .tuple #[.agg #[.int .i64 (k : Int), .int .u64 G], .int .i64 0]) (by simp [results, Try.results30, go_sem, g2, g3]) rfl ⟨k, g, w2.heap.size + 1, by rw [hG], p1, p2, ?_, by omega, by omega, ?_⟩
    · rw [hG]
      have hsl := hs2.lts
      have htl := ht2.lts
      have hol : ∀ q ∈ O, q.2.1 < w.heap.size := fun q hq => lt _ (by unfold HB.all; exact List.mem_append_right _ (List.mem_append_right _ (List.mem_map.2 ⟨q, hq, rfl⟩)))
      have hll : ∀ q ∈ l, q.2.1 < w.heap.size := fun q hq => lt _ (by unfold HB.all; exact List.mem_append_right _ (List.mem_append_left _ (List.mem_map.2 ⟨q, hq, rfl⟩)))
      have fl : B.x < w.heap.size ∧ B.s < w.heap.size ∧ B.bm < w.heap.size ∧ B.t < w.heap.size ∧ B.bl < w.heap.size ∧ B.bv < w.heap.size ∧ B.bo < w.heap.size := ⟨lt _ (by simp [HB.all]), lt _ (by simp [HB.all]), lt _ (by simp [HB.all]), lt _ (by simp [HB.all]), lt _ (by simp [HB.all]), lt _ (by simp [HB.all]), lt _ (by simp [HB.all])⟩
      have hgw : g < w2.heap.size := hsl.2.2 ((k : Int), (g, List.replicate n.toNat 0)) (by simp)
      have el : aput l (k : Int) (g, List.replicate n.toNat (0 : UInt8)) = l ++ [((k : Int), (g, List.replicate n.toNat 0))] := aput_new _ p2
      have eO : aput O ((k : Int), G) (w2.heap.size + 1, ((1 : Int), kind)) = O ++ [(((k : Int), G), (w2.heap.size + 1, ((1 : Int), kind)))] := aput_new _ ((aget_none_iff O _).1 hOk)
      have hmem : ∀ p ∈ l ++ [((k : Int), (g, List.replicate n.toNat (0 : UInt8)))], p ∈ l ∨ p.2.1 = g := fun p hp => by
        rcases List.mem_append.1 hp with hp | hp
        · exact .inl hp
        · obtain rfl := List.mem_singleton.1 hp; exact .inr rfl
      have hmemO : ∀ q ∈ O ++ [(((k : Int), G), (w2.heap.size + 1, ((1 : Int), kind)))], q ∈ O ∨ q = (((k : Int), G), (w2.heap.size + 1, ((1 : Int), kind))) := fun q hq => by
        rcases List.mem_append.1 hq with hq | hq
        · exact .inl hq
        · exact .inr (List.mem_singleton.1 hq)
      refine ⟨X4.heap (X3.heap hx2 (by simp; omega)) (by simp; omega), ?_, (ht2.kept X3 (by simp; omega) (by simp; omega) (by simp; omega)).kept X4 (by simp; omega) (by simp; omega) (by simp; omega), m3.kept X4 (by simp; omega), ?_, hxs, hss, htt, ?_, ?_, ?_, ?_, ?_, ?_⟩
      · rw [el]
        exact (hs2.kept X3 (by simp; omega) (by simp; omega) (fun p hp => by
          rcases hmem p hp with hp | hp
          · have := h.sl p hp; simp; omega
          · simp; omega)).kept X4 (by simp; omega) (by simp; omega) (fun p hp => by
          rcases hmem p hp with hp | hp
          · have := hll p hp; simp; omega
          · simp; omega)
      · rw [eO]
        intro q hq
        rcases hmemO q hq with hq | rfl
        · have a1 := hol q hq
          have a2 := h.so q hq
          have a3 : w2.heap[q.2.1]? = some (.cells #[.int .i64 q.2.2.1, .int .i64 q.2.2.2] 129 (0, 0)) := U2.heap (h.objs q hq) (by simp; omega)
          exact X4.heap (X3.heap a3 (by simp; omega)) (by simp; omega)
        · exact X4.heap hO3 (by simp; omega)
      · rw [el]
        intro p hp
        rcases hmem p hp with hp | hp
        · exact h.sl p hp
        · omega
      · rw [eO]
        intro q hq
        rcases hmemO q hq with hq | rfl
        · exact h.so q hq
        · simp only; omega
      · rw [el, eO]
        intro p hp q hq
        rcases hmem p hp with hp | hp <;> rcases hmemO q hq with hq | rfl
        · exact h.slo p hp q hq
        · have := hll p hp; simp only; omega
        · have := hol q hq; omega
        · simp only; omega
      · rw [eO, List.map_append, List.nodup_append]
        refine ⟨h.oap, by simp, fun a ha b hb => ?_⟩
        obtain ⟨q, hq, rfl⟩ := List.mem_map.1 ha
        simp at hb
        have := hol q hq
        omega
      · intro y
        rw [isSome_aput, isSome_aput, h.inv1]
      · rintro ⟨y, z⟩
        rw [isSome_aput, aget_aput]
        by_cases hy : (k : Int) = y
        · subst hy
          rw [if_pos rfl]
          by_cases hz : G = z
          · subst hz; simp
          · have e1 : aget O ((k : Int), z) = none := by
              cases ho : aget O ((k : Int), z) with
              | none => rfl
              | some q =>
                have := (h.inv2 ((k : Int), z)).1 (by rw [ho]; rfl)
                simp only at this
                rw [hVk] at this
                cases this
            simp [e1, hz]
        · rw [if_neg hy, ← h.inv2]
          simp [hy]
    · exact (U2.step X3 (by simp)).step X4 (by simp)
end Go.Proofs.Ytgleceijdedlkaa
