/- What no heap answers. -/
import Derived.Test.YtgleceijdedlkaaWorks14
import Derived.Test.YtgleceijdedlkaaLawLib
namespace Go.Proofs.Ytgleceijdedlkaa
open Go.RowKit
set_option linter.unusedVariables false
set_option linter.unusedSimpArgs false
namespace HN
set_option maxRecDepth 100000
set_option maxHeartbeats 1000000
theorem make (w : World) (a b : Int) : Calls Try.prog 30 #[.pointer none, .int .i64 a, .int .i64 b] w fun e w' => e = .returned (.tuple #[.agg #[.int .i64 0, .int .u64 0], .int .i64 1]) ∧ Upd [] w w' := by
  go_enter Try.func30, Try.ntmps30
  go_wp2
  exact bodyPost_ret (v := .tuple #[.agg #[.int .i64 0, .int .u64 0], .int .i64 1]) (by simp [results, Try.results30, go_sem]) rfl ⟨rfl, (Upd.refl [] w).alloc _⟩
theorem of_ (w : World) (a b : Int) : Calls Try.prog 66 #[.pointer none, .agg #[.int .i64 a, .int .u64 b]] w fun e w' => e = .returned (.tuple #[.pointer none, .int .i64 1]) ∧ Upd [] w w' := by
  go_enter Try.func66, Try.ntmps66
  go_wp2
  go_ret2
  exact ⟨rfl, (Upd.refl [] w).alloc _⟩
theorem hold (w : World) (a b : Int) : Calls Try.prog 32 #[.pointer none, .agg #[.int .i64 a, .int .u64 b]] w fun e w' => e = .returned (.tuple #[.int .i64 0, .int .i64 1]) ∧ Upd [] w w' := by
  go_enter Try.func32, Try.ntmps32
  go_wp2_with (go_at_call 66; (with_reducible refine (of_ _ _ _).mono ?_); rintro e w1 ⟨rfl, u1⟩)
  go_ret2
  exact ⟨rfl, ((Upd.refl [] w).alloc _).trans u1⟩
theorem drop (w : World) (a b : Int) : Calls Try.prog 33 #[.pointer none, .agg #[.int .i64 a, .int .u64 b]] w fun e w' => e = .returned (.tuple #[.int .i64 0, .int .i64 1]) ∧ Upd [] w w' := by
  go_enter Try.func33, Try.ntmps33
  go_wp2_with (go_at_call 66; (with_reducible refine (of_ _ _ _).mono ?_); rintro e w1 ⟨rfl, u1⟩)
  go_ret2
  exact ⟨rfl, ((Upd.refl [] w).alloc _).trans u1⟩
theorem free (w : World) (a b : Int) : Calls Try.prog 34 #[.pointer none, .agg #[.int .i64 a, .int .u64 b]] w fun e w' => e = .returned (.int .i64 1) ∧ Upd [] w w' := by
  go_enter Try.func34, Try.ntmps34
  go_wp2_with (go_at_call 66; (with_reducible refine (of_ _ _ _).mono ?_); rintro e w1 ⟨rfl, u1⟩)
  go_ret
  exact ⟨rfl, ((Upd.refl [] w).alloc _).trans u1⟩
theorem kind (w : World) (a b : Int) : Calls Try.prog 35 #[.pointer none, .agg #[.int .i64 a, .int .u64 b]] w fun e w' => e = .returned (.tuple #[.int .i64 0, .bool false]) ∧ Upd [] w w' := by
  go_enter Try.func35, Try.ntmps35
  go_wp2_with (go_at_call 66; (with_reducible refine (of_ _ _ _).mono ?_); rintro e w1 ⟨rfl, u1⟩)
  go_ret2
  exact ⟨rfl, ((Upd.refl [] w).alloc _).trans u1⟩
theorem count (w : World) (a b : Int) : Calls Try.prog 41 #[.pointer none, .agg #[.int .i64 a, .int .u64 b]] w fun e w' => e = .returned (.tuple #[.int .i64 0, .bool false]) ∧ Upd [] w w' := by
  go_enter Try.func41, Try.ntmps41
  go_wp2_with (go_at_call 66; (with_reducible refine (of_ _ _ _).mono ?_); rintro e w1 ⟨rfl, u1⟩)
  go_ret2
  exact ⟨rfl, ((Upd.refl [] w).alloc _).trans u1⟩
theorem read (w : World) (a b i n : Int) : Calls Try.prog 36 #[.pointer none, .agg #[.int .i64 a, .int .u64 b], .int .i64 i, .int .i64 n] w fun e w' => e = .returned (.tuple #[.string ByteArray.empty, .int .i64 1]) ∧ Upd [] w w' := by
  go_enter Try.func36, Try.ntmps36
  go_wp2_with (go_at_call 66; (with_reducible refine (of_ _ _ _).mono ?_); rintro e w1 ⟨rfl, u1⟩)
  go_ret2
  exact ⟨rfl, ((Upd.refl [] w).alloc _).trans u1⟩
theorem write (w : World) (a b i : Int) (t : ByteArray) : Calls Try.prog 37 #[.pointer none, .agg #[.int .i64 a, .int .u64 b], .int .i64 i, .string t] w fun e w' => e = .returned (.int .i64 1) ∧ Upd [] w w' := by
  go_enter Try.func37, Try.ntmps37
  go_wp2_with (go_at_call 66; (with_reducible refine (of_ _ _ _).mono ?_); rintro e w1 ⟨rfl, u1⟩)
  go_ret
  exact ⟨rfl, ((Upd.refl [] w).alloc _).trans u1⟩
theorem live (w : World) : Calls Try.prog 64 #[.pointer none] w fun e w' => e = .returned (.slice none 0 0) ∧ w = w' := by
  go_enter Try.func64, Try.ntmps64
  go_wp2
  go_ret
  exact ⟨rfl, rfl⟩
theorem used (w : World) : Calls Try.prog 62 #[.pointer none] w fun e w' => e = .returned (.int .i64 0) ∧ w = w' := by
  go_enter Try.func62, Try.ntmps62
  go_wp2
  go_ret
  exact ⟨rfl, rfl⟩
theorem room (w : World) : Calls Try.prog 63 #[.pointer none] w fun e w' => e = .returned (.int .i64 0) ∧ w = w' := by
  go_enter Try.func63, Try.ntmps63
  go_wp2
  go_ret
  exact ⟨rfl, rfl⟩
set_option maxRecDepth 100000 in
set_option maxHeartbeats 4000000 in
theorem walk (a b at_ : Int) (w : World) : Calls Try.prog 16 #[.agg #[.int .i64 a, .int .u64 b], .int .i64 at_] w fun e w' => e = .returned (.bool true) ∧ Upd [] w w' := by
  have U0 := (Upd.refl [] w).alloc (.cells #[.int .i64 a, .int .u64 b] 30 (0, 0))
  have b0 := heap_alloc_new w (.cells #[.int .i64 a, .int .u64 b] 30 (0, 0))
  go_enter Try.func16, Try.ntmps16
  go_wp2_with fail
  refine (make _ 1 8).mono ?_
  rintro e w1 ⟨rfl, u1⟩
  have U1 := (U0).trans u1
  have b1 := u1.heap (b0) (by simp)
  clear u1 U0 b0 
  have q0 := cell_of b1 0
  have q1 := cell_of b1 1
  have lq := lt_of_heap b1
  simp only [List.getElem?_toArray, List.getElem?_cons_zero, List.getElem?_cons_succ] at q0 q1
  go_wp2_with fail
  refine (hold _ a b).mono ?_
  rintro e w2 ⟨rfl, u2⟩
  have U2 := (U1.alloc (.cells #[.int .i64 0, .int .u64 0] 30 (0, 0))).trans u2
  have b2 := u2.heap (heap_alloc_old b1 _) (by simp)
  clear u2 U1 b1 q0 q1 lq
  have q0 := cell_of b2 0
  have q1 := cell_of b2 1
  have lq := lt_of_heap b2
  simp only [List.getElem?_toArray, List.getElem?_cons_zero, List.getElem?_cons_succ] at q0 q1
  go_wp2_with fail
  refine (drop _ a b).mono ?_
  rintro e w3 ⟨rfl, u3⟩
  have U3 := (U2).trans u3
  have b3 := u3.heap (b2) (by simp)
  clear u3 U2 b2 q0 q1 lq
  have q0 := cell_of b3 0
  have q1 := cell_of b3 1
  have lq := lt_of_heap b3
  simp only [List.getElem?_toArray, List.getElem?_cons_zero, List.getElem?_cons_succ] at q0 q1
  go_wp2_with fail
  refine (kind _ a b).mono ?_
  rintro e w4 ⟨rfl, u4⟩
  have U4 := (U3).trans u4
  have b4 := u4.heap (b3) (by simp)
  clear u4 U3 b3 q0 q1 lq
  have q0 := cell_of b4 0
  have q1 := cell_of b4 1
  have lq := lt_of_heap b4
  simp only [List.getElem?_toArray, List.getElem?_cons_zero, List.getElem?_cons_succ] at q0 q1
  go_wp2_with fail
  refine (count _ a b).mono ?_
  rintro e w5 ⟨rfl, u5⟩
  have U5 := (U4).trans u5
  have b5 := u5.heap (b4) (by simp)
  clear u5 U4 b4 q0 q1 lq
  have q0 := cell_of b5 0
  have q1 := cell_of b5 1
  have lq := lt_of_heap b5
  simp only [List.getElem?_toArray, List.getElem?_cons_zero, List.getElem?_cons_succ] at q0 q1
  go_wp2_with fail
  refine (read _ a b at_ 1).mono ?_
  rintro e w6 ⟨rfl, u6⟩
  have U6 := (U5).trans u6
  have b6 := u6.heap (b5) (by simp)
  clear u6 U5 b5 q0 q1 lq
  have q0 := cell_of b6 0
  have q1 := cell_of b6 1
  have lq := lt_of_heap b6
  simp only [List.getElem?_toArray, List.getElem?_cons_zero, List.getElem?_cons_succ] at q0 q1
  go_wp2_with fail
  refine (free _ a b).mono ?_
  rintro e w7 ⟨rfl, u7⟩
  have U7 := (U6).trans u7
  have b7 := u7.heap (b6) (by simp)
  clear u7 U6 b6 q0 q1 lq
  have q0 := cell_of b7 0
  have q1 := cell_of b7 1
  have lq := lt_of_heap b7
  simp only [List.getElem?_toArray, List.getElem?_cons_zero, List.getElem?_cons_succ] at q0 q1
  go_wp2_with fail
  refine (write _ a b at_ ⟨#[97]⟩).mono ?_
  rintro e w8 ⟨rfl, u8⟩
  have U8 := (U7).trans u8
  have b8 := u8.heap (b7) (by simp)
  clear u8 U7 b7 q0 q1 lq
  have q0 := cell_of b8 0
  have q1 := cell_of b8 1
  have lq := lt_of_heap b8
  simp only [List.getElem?_toArray, List.getElem?_cons_zero, List.getElem?_cons_succ] at q0 q1
  go_wp2_with fail
  refine (live _).mono ?_
  rintro e wz ⟨rfl, rfl⟩
  go_wp2_with fail
  refine (used _).mono ?_
  rintro e wz ⟨rfl, rfl⟩
  go_wp2_with fail
  refine (room _).mono ?_
  rintro e wz ⟨rfl, rfl⟩
  go_wp2_with fail
  refine (works14 _).mono ?_
  rintro e w9 ⟨rfl, u9⟩
  have U9 := (U8).trans u9
  have b9 := u9.heap (b8) (by simp)
  clear u9 U8 b8 q0 q1 lq
  have q0 := cell_of b9 0
  have q1 := cell_of b9 1
  have lq := lt_of_heap b9
  simp only [List.getElem?_toArray, List.getElem?_cons_zero, List.getElem?_cons_succ] at q0 q1
  go_wp2_with fail
  go_ret
  exact ⟨rfl, U9⟩
end HN
end Go.Proofs.Ytgleceijdedlkaa
