/- The document's example of the table of handles. -/
import Derived.Test.YtgleceijdedlkaaHandle
namespace Go.Proofs.Ytgleceijdedlkaa
open Go.RowKit
set_option linter.unusedVariables false
set_option linter.unusedSimpArgs false
theorem mk1 (w : World) (t bl bv : Nat) (h : TableAt w t bl bv [] []) : Calls Try.prog 19 #[.pointer (some ⟨t, 0, none⟩), .int .i64 3] w fun e w' => e = .returned (.tuple #[.agg #[.int .i64 3, .int .u64 1], .int .i64 0]) ∧ TableAt w' t bl bv [(3, 1)] [(3, (3, 1))] ∧ Upd [bl, bv] w w' :=
  Make_spec w t bl bv [] [] 3 h rfl
theorem mk2 (w : World) (t bl bv : Nat) (h : TableAt w t bl bv [(3, 1)] []) : Calls Try.prog 19 #[.pointer (some ⟨t, 0, none⟩), .int .i64 3] w fun e w' => e = .returned (.tuple #[.agg #[.int .i64 3, .int .u64 2], .int .i64 0]) ∧ TableAt w' t bl bv [(3, 2)] [(3, (3, 2))] ∧ Upd [bl, bv] w w' :=
  Make_spec w t bl bv [(3, 1)] [] 3 h rfl
theorem dr1 (w : World) (t bl bv : Nat) (h : TableAt w t bl bv [(3, 1)] [(3, (3, 1))]) : Calls Try.prog 20 #[.pointer (some ⟨t, 0, none⟩), .agg #[.int .i64 3, .int .u64 1]] w fun e w' => e = .returned (.int .i64 0) ∧ TableAt w' t bl bv [(3, 1)] [] ∧ Upd [bv] w w' :=
  Drop_spec w t bl bv [(3, 1)] [(3, (3, 1))] 3 1 h rfl
theorem dr2 (w : World) (t bl bv : Nat) (h : TableAt w t bl bv [(3, 2)] [(3, (3, 2))]) : Calls Try.prog 20 #[.pointer (some ⟨t, 0, none⟩), .agg #[.int .i64 3, .int .u64 1]] w fun e w' => e = .returned (.int .i64 130) ∧ TableAt w' t bl bv [(3, 2)] [(3, (3, 2))] ∧ Upd [bv] w w' :=
  Drop_spec w t bl bv [(3, 2)] [(3, (3, 2))] 3 1 h rfl
theorem of1 (w : World) (t bl bv : Nat) (h : TableAt w t bl bv [(3, 2)] [(3, (3, 2))]) : Calls Try.prog 44 #[.pointer (some ⟨t, 0, none⟩), .int .i64 3] w fun e w' => e = .returned (.tuple #[.agg #[.int .i64 3, .int .u64 2], .bool true]) ∧ Upd [] w w' :=
  Of_spec w t bl bv [(3, 2)] [(3, (3, 2))] 3 h rfl
theorem lv1 (w : World) (t bl bv : Nat) (h : TableAt w t bl bv [(3, 2)] [(3, (3, 2))]) : Calls Try.prog 47 #[.pointer (some ⟨t, 0, none⟩), .agg #[.int .i64 3, .int .u64 1]] w fun e w' => e = .returned (.bool false) ∧ Upd [] w w' :=
  Lives_spec w t bl bv [(3, 2)] [(3, (3, 2))] 3 1 h rfl
theorem lv2 (w : World) (t bl bv : Nat) (h : TableAt w t bl bv [(3, 2)] [(3, (3, 2))]) : Calls Try.prog 47 #[.pointer (some ⟨t, 0, none⟩), .agg #[.int .i64 3, .int .u64 2]] w fun e w' => e = .returned (.bool true) ∧ Upd [] w w' :=
  Lives_spec w t bl bv [(3, 2)] [(3, (3, 2))] 3 2 h rfl
/-- A handle of the caller's own. -/
def hc (a b : Int) : Obj := .cells #[.int .i64 a, .int .u64 b] 30
set_option maxRecDepth 100000 in
set_option maxHeartbeats 2000000 in
theorem works13 (w : World) : Calls Try.prog 17 #[] w fun e w' => e = .returned (.bool true) ∧ Upd [] w w' := by
  go_enter Try.func17, Try.ntmps17
  go_wp2_with (go_at_call 18; (with_reducible refine (New_spec _).mono ?_); rintro e w1 ⟨t, bl, bv, rfl, h1, u1, a1, a2, a3⟩)
  obtain ⟨x1, x2, x3⟩ := h1.lts
  go_wp2_with (go_at_call 19; (with_reducible refine (mk1 _ t bl bv h1).mono ?_); rintro e w2 ⟨rfl, h2, u2⟩; have U2 := u1.step u2 (by simp; omega); have y2 := u2.size; clear u1 u2 h1)
  go_wp2_with (go_at_call 20; (with_reducible refine (dr1 _ t bl bv (h2.alloc _)).mono ?_); rintro e w3 ⟨rfl, h3, u3⟩; have U3 := (U2.alloc _).step u3 (by simp; omega); have b3 : w3.heap[w2.heap.size]? = some (hc 3 1) := u3.heap (heap_alloc_new _ _) (by simp; omega); have y3 := u3.size1; clear u3 U2 h2)
  go_wp2_with (go_at_call 19; (with_reducible refine (mk2 _ t bl bv h3).mono ?_); rintro e w4 ⟨rfl, h4, u4⟩; have U4 := U3.step u4 (by simp; omega); have b4 : w4.heap[w2.heap.size]? = some (hc 3 1) := u4.heap b3 (by simp; omega); have y4 := u4.size; clear u4 U3 h3 b3)
  have A4 := U4.size
  go_wp2_with (go_at_call 44; (with_reducible refine (of1 _ t bl bv (h4.alloc _)).mono ?_); rintro e w5 ⟨rfl, u5⟩; have h5 := (h4.alloc _).kept u5 (by simp) (by simp) (by simp); have U5 := (U4.alloc _).trans u5; have b5 : w5.heap[w2.heap.size]? = some (.cells #[.int .i64 3, .int .u64 1] 30 (0, 0)) := u5.heap (heap_alloc_old b4 _) (by simp); have d5 : w5.heap[w4.heap.size]? = some (.cells #[.int .i64 3, .int .u64 2] 30 (0, 0)) := u5.heap (heap_alloc_new _ _) (by simp); have y5 := u5.size1; clear u5 U4 h4 b4; have p0 := cell_of b5 0; have p1 := cell_of b5 1; simp only [List.getElem?_toArray, List.getElem?_cons_zero, List.getElem?_cons_succ] at p0 p1; have q0 := cell_of d5 0; have q1 := cell_of d5 1; simp only [List.getElem?_toArray, List.getElem?_cons_zero, List.getElem?_cons_succ] at q0 q1; have l1 := lt_of_heap b5; have l2 := lt_of_heap d5; go_wp2_with fail)
  go_wp2_with (go_at_call 47; (with_reducible refine (lv1 _ t bl bv (h5.alloc _)).mono ?_); rintro e w6 ⟨rfl, u6⟩; have h6 := (h5.alloc _).kept u6 (by simp) (by simp) (by simp); have U6 := (U5.alloc _).trans u6; have b6 := u6.heap (heap_alloc_old b5 _) (by simp); have d6 := u6.heap (heap_alloc_old d5 _) (by simp); have e6 := u6.heap (heap_alloc_new _ _) (by simp); clear u6 U5 h5 b5 d5 p0 p1 q0 q1; have p0 := cell_of b6 0; have p1 := cell_of b6 1; simp only [List.getElem?_toArray, List.getElem?_cons_zero, List.getElem?_cons_succ] at p0 p1; have q0 := cell_of d6 0; have q1 := cell_of d6 1; simp only [List.getElem?_toArray, List.getElem?_cons_zero, List.getElem?_cons_succ] at q0 q1; have r0 := cell_of e6 0; have r1 := cell_of e6 1; simp only [List.getElem?_toArray, List.getElem?_cons_zero, List.getElem?_cons_succ] at r0 r1; go_wp2_with fail)
  go_wp2_with (go_at_call 47; (with_reducible refine (lv2 _ t bl bv h6).mono ?_); rintro e w7 ⟨rfl, u7⟩; have h7 := h6.kept u7 (by simp) (by simp) (by simp); have U7 := U6.trans u7; have b7 := u7.heap b6 (by simp); have d7 := u7.heap d6 (by simp); have e7 := u7.heap e6 (by simp); clear u7 U6 h6 b6 d6 e6 p0 p1 q0 q1 r0 r1; have p0 := cell_of b7 0; have p1 := cell_of b7 1; simp only [List.getElem?_toArray, List.getElem?_cons_zero, List.getElem?_cons_succ] at p0 p1; have q0 := cell_of d7 0; have q1 := cell_of d7 1; simp only [List.getElem?_toArray, List.getElem?_cons_zero, List.getElem?_cons_succ] at q0 q1; have r0 := cell_of e7 0; have r1 := cell_of e7 1; simp only [List.getElem?_toArray, List.getElem?_cons_zero, List.getElem?_cons_succ] at r0 r1; go_wp2_with fail)
  go_wp2_with (go_at_call 20; (with_reducible refine (dr2 _ t bl bv h7).mono ?_); rintro e w8 ⟨rfl, h8, u8⟩; have U8 := U7.step u8 (by simp; omega))
  go_ret
  exact ⟨rfl, U8⟩
end Go.Proofs.Ytgleceijdedlkaa
