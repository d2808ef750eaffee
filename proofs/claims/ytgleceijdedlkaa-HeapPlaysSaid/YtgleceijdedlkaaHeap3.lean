/- The heap of objects: Free. -/
import Derived.Test.YtgleceijdedlkaaHeap2
namespace Go.Proofs.Ytgleceijdedlkaa
open Go.RowKit
set_option linter.unusedVariables false
set_option linter.unusedSimpArgs false
set_option maxRecDepth 100000 in
set_option maxHeartbeats 1000000 in
theorem Free_no (w : World) (B : HB) (room used : Int) (l : Slots) (L : Lasts) (V : Lives) (O : Objs) (a b : Int) (h : HeapAt w B room used l L V O) (hk : okH (a, b)) (hg : aget O (a, b) = none) :
    Calls Try.prog 34 #[.pointer (some ⟨B.x, 0, none⟩), .agg #[.int .i64 a, .int .u64 b]] w fun e w' => e = .returned (.int .i64 130) ∧ Upd [] w w' := by
  go_enter Try.func34, Try.ntmps34
  go_wp2_with fail
  refine (hof_stale _ B room used l L V O a b (h.keep (box_upd w a b)) hk hg).mono ?_
  rintro e w1 ⟨rfl, u1⟩
  go_wp2_with fail
  go_ret
  exact ⟨rfl, (box_upd w a b).trans u1⟩
set_option maxRecDepth 100000 in
set_option maxHeartbeats 1000000 in
theorem Free_held (w : World) (B : HB) (room used : Int) (l : Slots) (L : Lasts) (V : Lives) (O : Objs) (a b : Int) (h : HeapAt w B room used l L V O) (hk : okH (a, b)) (p : Nat) (c k : Int) (hg : aget O (a, b) = some (p, (c, k))) (hc : 0 < c) :
    Calls Try.prog 34 #[.pointer (some ⟨B.x, 0, none⟩), .agg #[.int .i64 a, .int .u64 b]] w fun e w' => e = .returned (.int .i64 3) ∧ Upd [] w w' := by
  have z : decide (0 < c) = true := decide_eq_true hc
  go_enter Try.func34, Try.ntmps34
  go_wp2_with fail
  refine (hof_ok _ B room used l L V O a b (h.keep (box_upd w a b)) hk p c k hg).mono ?_
  rintro e w1 ⟨rfl, u1⟩
  have h1 := (h.keep (box_upd w a b)).keep u1
  have q1 := cell_of (h1.obj hg) 0
  simp only [List.getElem?_toArray, List.getElem?_cons_zero, List.getElem?_cons_succ] at q1
  go_wp2_with fail
  go_ret
  exact ⟨rfl, (box_upd w a b).trans u1⟩
theorem mem_keys_adel {K V : Type} [DecidableEq K] {l : List (K × V)} {x : K} {p : K × V} (hp : p ∈ adel l x) : p ∈ l := (mem_adel hp).1
set_option maxRecDepth 100000 in
set_option maxHeartbeats 4000000 in
theorem Free_ok (w : World) (B : HB) (room used : Int) (l : Slots) (L : Lasts) (V : Lives) (O : Objs) (a b : Int) (h : HeapAt w B room used l L V O) (hk : okH (a, b)) (p : Nat) (c k : Int) (hg : aget O (a, b) = some (p, (c, k))) (hc : c ≤ 0)
    (g : Nat) (bs : List UInt8) (hl : aget l a = some (g, bs)) (hbl : bs.length ≤ 1000) (h0 : 0 ≤ used) (h1 : used ≤ 65536) :
    Calls Try.prog 34 #[.pointer (some ⟨B.x, 0, none⟩), .agg #[.int .i64 a, .int .u64 b]] w fun e w' => e = .returned (.int .i64 0) ∧ HeapAt w' B room (used - cls bs.length) (adel l a) L (adel V a) (adel O (a, b)) ∧ Upd [B.s, B.bm, B.bv, B.bo] w w' := by
  have z : decide (0 < c) = false := decide_eq_false (by omega)
  have hV : aget V a = some (a, b) := (h.inv2 (a, b)).1 (by rw [hg]; rfl)
  have fx := h.fx
  have fs := h.fs
  have ft := h.ft
  have hlt := h.lts
  have fl : B.x < w.heap.size ∧ B.s < w.heap.size ∧ B.bm < w.heap.size ∧ B.t < w.heap.size ∧ B.bl < w.heap.size ∧ B.bv < w.heap.size ∧ B.bo < w.heap.size := ⟨hlt _ (by simp [HB.all]), hlt _ (by simp [HB.all]), hlt _ (by simp [HB.all]), hlt _ (by simp [HB.all]), hlt _ (by simp [HB.all]), hlt _ (by simp [HB.all]), hlt _ (by simp [HB.all])⟩
  go_enter Try.func34, Try.ntmps34
  go_wp2_with fail
  refine (hof_ok _ B room used l L V O a b (h.keep (box_upd w a b)) hk p c k hg).mono ?_
  rintro e w1 ⟨rfl, u1⟩
  have H1 := (h.keep (box_upd w a b)).keep u1
  have U1 := (box_upd w a b).trans u1
  have b1 := u1.heap (heap_alloc_new w (.cells #[.int .i64 a, .int .u64 b] 30)) (by simp)
  have q1 := cell_of (H1.obj hg) 0
  have q2 := cell_of b1 0
  have q3 := cell_of b1 1
  have q4 := H1.c2
  simp only [List.getElem?_toArray, List.getElem?_cons_zero, List.getElem?_cons_succ] at q1 q2 q3
  clear u1
  go_wp2_with fail
  refine still_tail 5 (by kernel_rfl) (by kernel_rfl) ?_
  simp only [List.take_succ_cons, List.take_zero, List.drop_succ_cons, List.drop_zero]
  repeat still_step
  refine wpStill_nil ?_
  have hm1 : MapAt eh eo okH w1.drew B.bo O := H1.map
  go_wp2_with (at_delete; refine wl_delete rfl (.tmp 27) (.tmp 28) _ rfl rfl kh Try.underlying122 rfl hm1 (a, b) rfl hk ?_; intro w2 m2 u2 z2; have u2' : Upd [B.bo] w1 w2 := ⟨u2.os, u2.tape, u2.output, u2.size, u2.block⟩; have b2 := u2'.heap b1 (by simp; omega); have x2 := u2'.heap H1.cells (by simp; omega); have r0 := cell_of b2 0; have r1 := cell_of b2 1; have r2 := cell_of x2 0; have r3 := cell_of x2 1; have hs2 := H1.slab.kept u2' (by simp; omega) (by simp; omega) (fun q hq => by have := h.sl q hq; simp; omega); have ht2 := H1.tab.kept u2' (by simp; omega) (by simp; omega) (by simp; omega); clear u2; simp only [List.getElem?_toArray, List.getElem?_cons_zero, List.getElem?_cons_succ] at r0 r1 r2 r3)
  refine still_tail 5 (by kernel_rfl) (by kernel_rfl) ?_
  simp only [List.take_succ_cons, List.take_zero, List.drop_succ_cons, List.drop_zero]
  repeat still_step
  refine wpStill_nil ?_
  go_wp2_with fail
  refine (Drop_spec _ _ _ _ L V a b ht2.drew hk.1).mono ?_
  rintro e w3 ⟨rfl, ht3, u3⟩
  rw [if_pos hV] at ht3 ⊢
  have u3' : Upd [B.bv] w2 w3 := ⟨u3.os, u3.tape, u3.output, u3.size, u3.block⟩
  have b3 := u3'.heap b2 (by simp; omega)
  have x3 := u3'.heap x2 (by simp; omega)
  have s0 := cell_of b3 0
  have s2 := cell_of x3 0
  have hs3 := hs2.kept u3' (by simp; omega) (by simp; omega) (fun q hq => by have := h.sl q hq; simp; omega)
  simp only [List.getElem?_toArray, List.getElem?_cons_zero, List.getElem?_cons_succ] at s0 s2
  clear u3 r0 r1 r2 r3 q1 q2 q3 q4
  go_wp2_with fail
  refine still_tail 6 (by kernel_rfl) (by kernel_rfl) ?_
  simp only [List.take_succ_cons, List.take_zero, List.drop_succ_cons, List.drop_zero]
  repeat still_step
  refine wpStill_nil ?_
  go_wp2_with fail
  refine (Give_ok _ _ _ room used l a (hs3.keep ((Upd.refl [] w3).drew)) hk.1 g bs hl hbl h0 h1).mono ?_
  rintro e w4 ⟨rfl, hs4, u4⟩
  have u4' : Upd [B.s, B.bm] w3 w4 := ⟨u4.os, u4.tape, u4.output, u4.size, u4.block⟩
  go_wp2_with fail
  go_ret
  refine ⟨rfl, ?_, (((U1.mono (by simp)).step u2' (by simp)).step u3' (by simp)).step u4' (by simp)⟩
  refine ⟨u4'.heap x3 (by simp; omega), hs4, ht3.kept u4' (by simp; omega) (by simp; omega) (by simp; omega), (m2.kept u3' (by simp; omega)).kept u4' (by simp; omega), ?_, fx, fs, ft, fun q hq => h.sl q (mem_adel hq).1, fun q hq => h.so q (mem_adel hq).1, fun q hq r hr => h.slo q (mem_adel hq).1 r (mem_adel hr).1, ?_, ?_, ?_⟩
  · intro q hq
    have hq' := (mem_adel hq).1
    have hsq := h.so q hq'
    have e1 := H1.objs q hq'
    exact u4'.heap (u3'.heap (u2'.heap e1 (by simp; omega)) (by simp; omega)) (by simp; omega)
  · exact (List.Sublist.map _ List.filter_sublist).nodup h.oap
  · intro y
    rw [aget_adel, aget_adel]
    split
    · rfl
    · exact h.inv1 y
  · rintro ⟨y, zz⟩
    rw [aget_adel, aget_adel]
    by_cases hy : a = y
    · subst hy
      rw [if_pos rfl]
      by_cases hz : b = zz
      · subst hz; simp
      · rw [if_neg (by simpa using hz)]
        have : aget O (a, zz) = none := by
          cases ho : aget O (a, zz) with
          | none => rfl
          | some q =>
            have := (h.inv2 (a, zz)).1 (by rw [ho]; rfl)
            simp only at this
            rw [hV] at this
            simp at this
            exact absurd this hz
        simp [this]
    · rw [if_neg (by simp [hy]), if_neg hy]
      exact h.inv2 (y, zz)
end Go.Proofs.Ytgleceijdedlkaa
