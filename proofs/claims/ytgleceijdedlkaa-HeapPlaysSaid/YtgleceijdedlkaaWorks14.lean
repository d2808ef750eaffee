/- The document's example of the heap. -/
import Derived.Test.YtgleceijdedlkaaHeld
import Derived.Test.YtgleceijdedlkaaWorks12
namespace Go.Proofs.Ytgleceijdedlkaa
open Go.RowKit
set_option linter.unusedVariables false
set_option linter.unusedSimpArgs false
set_option maxRecDepth 100000 in
set_option maxHeartbeats 4000000 in
theorem works14 (w : World) : Calls Try.prog 28 #[] w fun e w' => e = .returned (.bool true) ∧ Upd [] w w' := by
  go_enter Try.func28, Try.ntmps28
  go_wp2_with fail
  refine (hNew _ 16 (by omega) (by omega)).mono ?_
  rintro e w1 ⟨x, rfl, h1, u1⟩
  go_wp2_with fail
  refine (hMake_ok h1 7 16 (fun b hb => by have := u1.size; omega) (by decide) (by decide) (by decide) (by omega) (by decide)).mono ?_
  rintro e w2 ⟨k, rfl, p1, p2, h2, t2⟩
  obtain rfl : k = 0 := next_is (m := 0) p1 p2
  have U2 := t2.upd u1 (fun b hb => hb)
  have hg : genOf HS.nil.L ((0 : Nat) : Int) = 1 := by decide
  rw [hg]
  have h2 : Held w2 x 16 ⟨16, [(0, List.replicate 16 0)], [(0, 1)], [(0, (0, 1))], [((0, 1), (1, 7))]⟩ (fun b => w.heap.size ≤ b) := h2
  have h2o := h2.own (.cells #[.int .i64 0, .int .u64 1] 30 (0, 0))
  have lw2 := U2.size
  clear t2 h1 p1 p2 hg u1
  go_wp2_with fail
  refine (hHold_ok h2o 0 1 1 7 (by omega) rfl).mono ?_
  rintro e w3 ⟨rfl, h3, t3⟩
  have U3 := t3.upd (U2.alloc (.cells #[.int .i64 0, .int .u64 1] 30 (0, 0))) (fun b hb => hb.1)
  have b3 := t3.heap (heap_alloc_new w2 (.cells #[.int .i64 0, .int .u64 1] 30 (0, 0))) (by simp)
  have q0 := cell_of b3 0
  have q1 := cell_of b3 1
  simp only [List.getElem?_toArray, List.getElem?_cons_zero, List.getElem?_cons_succ] at q0 q1
  clear t3 h2o h2
  go_wp2_with fail
  refine (hFree_held h3 0 1 2 7 (by omega) rfl).mono ?_
  rintro e w4 ⟨rfl, h4, u4⟩
  have U4 := U3.trans u4
  have b4 := u4.heap b3 (by simp)
  clear q0 q1
  have q0 := cell_of b4 0
  have q1 := cell_of b4 1
  simp only [List.getElem?_toArray, List.getElem?_cons_zero, List.getElem?_cons_succ] at q0 q1
  clear u4 h3 U3 b3
  go_wp2_with fail
  refine (hDrop_ok h4 0 1 2 7 (by omega) (by omega) rfl).mono ?_
  rintro e w5 ⟨rfl, h5, t5⟩
  have U5 := t5.upd U4 (fun b hb => hb.1)
  have b5 := t5.heap b4 (by simp)
  clear q0 q1
  have q0 := cell_of b5 0
  have q1 := cell_of b5 1
  simp only [List.getElem?_toArray, List.getElem?_cons_zero, List.getElem?_cons_succ] at q0 q1
  clear t5 h4 U4 b4
  go_wp2_with fail
  refine (hDrop_ok h5 0 1 1 7 (by omega) (by omega) rfl).mono ?_
  rintro e w6 ⟨rfl, h6, t6⟩
  have U6 := t6.upd U5 (fun b hb => hb.1)
  have b6 := t6.heap b5 (by simp)
  clear q0 q1
  have q0 := cell_of b6 0
  have q1 := cell_of b6 1
  simp only [List.getElem?_toArray, List.getElem?_cons_zero, List.getElem?_cons_succ] at q0 q1
  clear t6 h5 U5 b5
  go_wp2_with fail
  refine (hFree_ok h6 0 1 0 7 (by omega) (List.replicate 16 0) rfl (by simp) (by decide) (by decide) rfl).mono ?_
  rintro e w7 ⟨rfl, h7, t7⟩
  have U7 := t7.upd U6 (fun b hb => hb.1)
  have b7 := t7.heap b6 (by simp)
  clear q0 q1
  have q0 := cell_of b7 0
  have q1 := cell_of b7 1
  simp only [List.getElem?_toArray, List.getElem?_cons_zero, List.getElem?_cons_succ] at q0 q1
  have sz7 := lt_of_heap b7
  clear t7 h6 U6 b6
  have h7 : Held w7 x 16 ⟨0, [], [(0, 1)], [], []⟩ (fun b => w.heap.size ≤ b ∧ b ≠ w2.heap.size) := h7
  go_wp2_with fail
  refine (hMake_ok h7 8 16 (fun b hb => by omega) (by decide) (by decide) (by decide) (by omega) (by decide)).mono ?_
  rintro e w8 ⟨k, rfl, p1, p2, h8, t8⟩
  obtain rfl : k = 0 := next_is (m := 0) p1 p2
  have U8 := t8.upd U7 (fun b hb => hb.1)
  have b8 := t8.heap b7 (by simp)
  have hg : genOf ([(0, 1)] : Lasts) ((0 : Nat) : Int) = 2 := by decide
  simp only [hg]
  have h8 : Held w8 x 16 ⟨16, [(0, List.replicate 16 0)], [(0, 2)], [(0, (0, 2))], [((0, 2), (1, 8))]⟩ (fun b => w.heap.size ≤ b ∧ b ≠ w2.heap.size) := h8
  have h8o := h8.own (.cells #[.int .i64 0, .int .u64 2] 30 (0, 0))
  clear t8 h7 p1 p2 hg U7 q0 q1
  go_wp2_with fail
  refine (hKind_ok h8o 0 2 1 8 rfl).mono ?_
  rintro e w9 ⟨rfl, h9, u9⟩
  have U9 := (U8.alloc (.cells #[.int .i64 0, .int .u64 2] 30 (0, 0))).trans u9
  have b9 := u9.heap (heap_alloc_old b8 (.cells #[.int .i64 0, .int .u64 2] 30 (0, 0))) (by simp)
  have c9 := u9.heap (heap_alloc_new w8 (.cells #[.int .i64 0, .int .u64 2] 30 (0, 0))) (by simp)
  have q0 := cell_of b9 0
  have q1 := cell_of b9 1
  have q2 := cell_of c9 0
  have q3 := cell_of c9 1
  simp only [List.getElem?_toArray, List.getElem?_cons_zero, List.getElem?_cons_succ] at q0 q1 q2 q3
  clear u9 h8o h8 U8 h9
  go_wp2_with fail
  go_ret
  exact ⟨rfl, U9⟩
end Go.Proofs.Ytgleceijdedlkaa
