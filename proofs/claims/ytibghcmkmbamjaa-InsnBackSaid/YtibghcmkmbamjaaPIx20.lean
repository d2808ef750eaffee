-- turned from the kit's print
import Derived.Test.YtibghcmkmbamjaaPIx0
import Derived.Test.YtibghcmkmbamjaaShort
import Derived.Test.YtibghcmkmbamjaaPIx1
import Derived.Test.YtibghcmkmbamjaaPIx2
import Derived.Test.YtibghcmkmbamjaaPIx3
import Derived.Test.YtibghcmkmbamjaaPIx10
namespace Go.Proofs.Ytibghcmkmbamjaa.PI
open Go.RowKit Go.Proofs.YtibghcmkmbamjaaW.PrintWords Go.Proofs.YtibghcmkmbamjaaW.PrintLast Go.Proofs.YtibghcmkmbamjaaW.PrintMore
attribute [local go_sem] max2_int min2_int max_two min_two max_three min_three max_four min_four   -- for this text's walks alone
set_option linter.unusedVariables false
set_option linter.unusedSimpArgs false

attribute [local go_sem high] eqA24
/-! ### wardenlaw07_InsnBack: function 5 -/
def wardenlaw07_InsnBack.f (k : Nat) (a0_0 : Int) (a0_1 : Int) (a0_2 : Int) (a0_3 : Int) (a0_4 : Int) (a1_0 : Int) (a1_1 : Int) (a1_2 : Int) (a1_3 : Int) (a1_4 : Int) (a2 : ByteArray) : Option (Bool) := if (a2.size : Int) > 4096 then ((wardenlaw07_alive.f k).bind fun t409 => (some t409)) else ((insn_Encode.f k a0_0 (Int.tmod a0_1 16) (Int.tmod a0_2 16) a0_3 a0_4).bind fun t410 => ((insn_Decode.f k t410).bind fun bt411 => ((insn_Decode.f k a2).bind fun bt418 => (if (bt411.1 == a0_0 && (bt411.2.1 == (Int.tmod a0_1 16) && (bt411.2.2.1 == (Int.tmod a0_2 16) && (bt411.2.2.2.1 == a0_3 && (bt411.2.2.2.2.1 == a0_4))))) = true then (if bt411.2.2.2.2.2 = 0 then ((insn_Encode.f k a0_0 (Int.tmod a0_1 16) (Int.tmod a0_2 16) a0_3 a0_4).bind fun t425 => (if (t425.size : Int) = 8 then ((insn_Encode.f k a0_0 (Int.tmod a0_1 16) (Int.tmod a0_2 16) a0_3 a0_4).bind fun t426 => ((insn_Encode.f k a1_0 (Int.tmod a1_1 16) (Int.tmod a1_2 16) a1_3 a1_4).bind fun t427 => (if ((t426.toList == t427.toList) == (a0_0 == a1_0 && ((Int.tmod a0_1 16) == (Int.tmod a1_1 16) && ((Int.tmod a0_2 16) == (Int.tmod a1_2 16) && (a0_3 == a1_3 && (a0_4 == a1_4)))))) = true then (if bt418.2.2.2.2.2 = 0 then ((insn_Encode.f k bt418.1 bt418.2.1 bt418.2.2.1 bt418.2.2.2.1 bt418.2.2.2.2.1).bind fun t428 => (if t428.toList = a2.toList then (if ((bt418.2.2.2.2.2 == 0) == ((a2.size : Int) == 8)) = true then ((wardenlaw07_alive.f k).bind fun t429 => (some t429)) else (some false)) else (some false))) else (if ((bt418.2.2.2.2.2 == 0) == ((a2.size : Int) == 8)) = true then ((wardenlaw07_alive.f k).bind fun t430 => (some t430)) else (some false))) else (some false)))) else (some false))) else (some false)) else (some false)))))
theorem wardenlaw07_InsnBack.mono : ∀ a0 a1 a2 a3 a4 a5 a6 a7 a8 a9 a10 k, LeO (wardenlaw07_InsnBack.f k a0 a1 a2 a3 a4 a5 a6 a7 a8 a9 a10) (wardenlaw07_InsnBack.f (k + 1) a0 a1 a2 a3 a4 a5 a6 a7 a8 a9 a10) := by
 intro a0 a1 a2 a3 a4 a5 a6 a7 a8 a9 a10 k
 unfold wardenlaw07_InsnBack.f
 repeat' first
   | (with_reducible exact insn_Decode.mono _ _)
   | (with_reducible exact insn_Encode.mono _ _ _ _ _ _)
   | (with_reducible exact wardenlaw07_alive.mono _)
   | (with_reducible exact LeO.refl _)
   | (with_reducible exact LeO.none _)
   | (with_reducible refine LeO.ite ?_ ?_)
   | (with_reducible refine LeO.bind ?_ (fun _ => ?_))
   | exact insn_Decode.mono _ _
   | exact insn_Encode.mono _ _ _ _ _ _
   | exact wardenlaw07_alive.mono _
   | exact LeO.none _
   | refine LeO.ite ?_ ?_
   | refine LeO.bind ?_ (fun _ => ?_)
def wardenlaw07_InsnBack.T9 : Bool × List (List Nat × List Nat) := (true, [([], []), ([], []), ([0, 1], [0, 1]), ([2], [2]), ([3], [3]), ([4, 3], [3, 4]), ([3, 5], [3, 5]), ([6, 3], [6]), ([7], [7]), ([8, 7, 7], [7, 8]), ([9, 7], [7, 9]), ([10, 7], [7, 10]), ([7, 11], [7, 11]), ([12, 9], [12]), ([13], [13]), ([14, 13, 13], [13, 14]), ([13], [13]), ([16, 15, 13], [13, 16]), ([15, 17, 13], [13, 15, 17]), ([13], [13]), ([13], [13]), ([19, 20, 13], [13, 19, 20]), ([18, 21, 13], [13, 18, 21]), ([13, 22], [13, 22]), ([23, 17], [23]), ([24], [24]), ([25, 24], [24, 25]), ([26, 24, 24], [24, 26]), ([27], [27]), ([28, 27, 27], [27, 28]), ([27], [27]), ([29, 30, 27], [27, 29, 30]), ([27, 31, 24], [24, 27, 31]), ([24, 32], [24, 32]), ([33, 29], [33]), ([34], [34]), ([35, 34], [34, 35]), ([34], [34]), ([37, 34], [34, 37]), ([38, 34], [34, 38]), ([36, 39, 34], [34, 36, 39]), ([34, 40], [34, 40]), ([41, 34], [41]), ([42, 42], [42]), ([42, 43], [42, 43]), ([44, 43, 0, 1, 2, 3, 4, 5, 6, 7, 8, 9, 10, 11, 12, 13, 14, 15, 16, 17, 18, 19, 20, 21, 22, 23, 24, 25, 26, 27, 28, 29, 30, 31, 32, 33, 34, 35, 36, 37, 38, 39, 40, 41, 42, 43, 44], [44])])
def wardenlaw07_InsnBack.B9 : List Nat := [0, 0, 3, 7, 15, 31, 63, 127, 255, 511, 1023, 2047, 4095, 8191, 16383, 32767, 16383, 131071, 262143, 16383, 16383, 1589247, 4194303, 8388607, 16777215, 33554431, 67108863, 134217727, 268435455, 536870911, 268435455, 2147483647, 4294967295, 8589934591, 17179869183, 34359738367, 68719476735, 34359738367, 171798691839, 446676598783, 1099511627775, 2199023255551, 4398046511103, 8796093022207, 17592186044415, 35184372088831]
theorem wardenlaw07_InsnBack.tab9 : rtab .any (opsOf Try.f5 9) = wardenlaw07_InsnBack.T9 := by kernel_rfl
theorem wardenlaw07_InsnBack.bits9 : waitsOk wardenlaw07_InsnBack.T9.2 wardenlaw07_InsnBack.B9 = true := by kernel_rfl
set_option maxHeartbeats 8000000 in
set_option maxRecDepth 100000 in
theorem wardenlaw07_InsnBack.calls (k : Nat) (a0_0 : Int) (a0_1 : Int) (a0_2 : Int) (a0_3 : Int) (a0_4 : Int) (a1_0 : Int) (a1_1 : Int) (a1_2 : Int) (a1_3 : Int) (a1_4 : Int) (a2 : ByteArray) (r : Bool) (w : World) (hr_ : Aside0 (r = true)) (h : wardenlaw07_InsnBack.f k a0_0 a0_1 a0_2 a0_3 a0_4 a1_0 a1_1 a1_2 a1_3 a1_4 a2 = some r) :
  Calls Try.prog 5 #[.agg #[.int .u8 a0_0, .int .u8 a0_1, .int .u8 a0_2, .int .i16 a0_3, .int .i32 a0_4], .agg #[.int .u8 a1_0, .int .u8 a1_1, .int .u8 a1_2, .int .i16 a1_3, .int .i32 a1_4], .string a2] w fun e w' => e = .returned (.bool r) ∧ Below w.heap.size w w' := by
 have hu24 := Try.underlying24
 have HB := am (Below.refl w.heap.size w)
 have H : (if (a2.size : Int) > 4096 then ((wardenlaw07_alive.f k).bind fun t409 => (some t409)) else ((insn_Encode.f k a0_0 (Int.tmod a0_1 16) (Int.tmod a0_2 16) a0_3 a0_4).bind fun t410 => ((insn_Decode.f k t410).bind fun bt411 => ((insn_Decode.f k a2).bind fun bt418 => (if (bt411.1 == a0_0 && (bt411.2.1 == (Int.tmod a0_1 16) && (bt411.2.2.1 == (Int.tmod a0_2 16) && (bt411.2.2.2.1 == a0_3 && (bt411.2.2.2.2.1 == a0_4))))) = true then (if bt411.2.2.2.2.2 = 0 then ((insn_Encode.f k a0_0 (Int.tmod a0_1 16) (Int.tmod a0_2 16) a0_3 a0_4).bind fun t425 => (if (t425.size : Int) = 8 then ((insn_Encode.f k a0_0 (Int.tmod a0_1 16) (Int.tmod a0_2 16) a0_3 a0_4).bind fun t426 => ((insn_Encode.f k a1_0 (Int.tmod a1_1 16) (Int.tmod a1_2 16) a1_3 a1_4).bind fun t427 => (if ((t426.toList == t427.toList) == (a0_0 == a1_0 && ((Int.tmod a0_1 16) == (Int.tmod a1_1 16) && ((Int.tmod a0_2 16) == (Int.tmod a1_2 16) && (a0_3 == a1_3 && (a0_4 == a1_4)))))) = true then (if bt418.2.2.2.2.2 = 0 then ((insn_Encode.f k bt418.1 bt418.2.1 bt418.2.2.1 bt418.2.2.2.1 bt418.2.2.2.2.1).bind fun t428 => (if t428.toList = a2.toList then (if ((bt418.2.2.2.2.2 == 0) == ((a2.size : Int) == 8)) = true then ((wardenlaw07_alive.f k).bind fun t429 => (some t429)) else (some false)) else (some false))) else (if ((bt418.2.2.2.2.2 == 0) == ((a2.size : Int) == 8)) = true then ((wardenlaw07_alive.f k).bind fun t430 => (some t430)) else (some false))) else (some false)))) else (some false))) else (some false)) else (some false)))))) = some r := h
 clear h
 by_cases c4 : (a2.size : Int) > 4096
 ·rw [if_pos c4] at H
  have c4b0 : decide (4096 < (a2.size : Int)) = true := decide_eq_true c4
  have c4b1 : decide (4096 < a2.size) = true := decide_eq_true (by omega)
  clear c4
  replace H := Option.bind_eq_some_iff.mp H
  obtain ⟨t409, A50, H⟩ := H
  try dsimp only at H
  have A5 := am A50
  clear A50
  obtain rfl := Option.some.inj H
  go_enter Try.func5, Try.ntmps5
  go_wp2_with (first | ((with_reducible refine gate_dst (N := 3) rfl ?_); (try (refine gate_guard (by rfl) ?_; dsimp only)); refine box_event ?hg (N := 3) ?hd (cs := #[.int .u8 a0_0, .int .u8 a0_1, .int .u8 a0_2, .int .i16 a0_3, .int .i32 a0_4]) (t := 24) ?hr ?_; (case hd => rfl); (case hg => rfl); (case hr => first | (go_simp; done) | (go_simp; rfl)); intro gb407 hg w6 hbox hb; have n0_ := am (below_step (by repeat (first | exact HB.out | apply pb | apply pa | apply pd)) hb); have n1_ := am (hbox); have n2_ := am ((by rw [hg]; exact (below_size (by repeat (first | exact HB.out | apply pb | apply pa | apply pd))) : w.heap.size ≤ gb407)); have n3_ := am ((by rw [hg]; exact (below_size (by repeat (first | exact HB.out | apply pb | apply pa | apply pd))) : w.heap.size ≤ gb407)); clear HB; have HB := n0_; have BK407 := n1_; have GW407 := n2_; have GE407 := n3_; clear n0_ n1_ n2_ n3_; clear hb hbox hg) | ((with_reducible refine gate_dst (N := 4) rfl ?_); (try (refine gate_guard (by rfl) ?_; dsimp only)); refine box_event ?hg (N := 4) ?hd (cs := #[.int .u8 a1_0, .int .u8 a1_1, .int .u8 a1_2, .int .i16 a1_3, .int .i32 a1_4]) (t := 24) ?hr ?_; (case hd => rfl); (case hg => rfl); (case hr => first | (go_simp; done) | (go_simp; rfl)); intro gb408 hg w7 hbox hb; have n0_ := am (blk_below (g := gb407) (o := .cells #[.int .u8 a0_0, .int .u8 a0_1, .int .u8 a0_2, .int .i16 a0_3, .int .i32 a0_4] 24 (0, 0)) (by first | exact BK407.out | exact blk_drewN BK407.out _) hb); have n1_ := am (below_step (by repeat (first | exact HB.out | apply pb | apply pa | apply pd | refine below_set ?_ GE407.out)) hb); have n2_ := am (hbox); have n3_ := am ((by rw [hg]; exact (below_size (by repeat (first | exact HB.out | apply pb | apply pa | apply pd | refine below_set ?_ GE407.out))) : w.heap.size ≤ gb408)); have n4_ := am ((by rw [hg]; exact (below_size (by repeat (first | exact HB.out | apply pb | apply pa | apply pd | refine below_set ?_ GE407.out))) : w.heap.size ≤ gb408)); have n5_ := am ((by rw [hg]; exact Nat.ne_of_lt (blk_lt (g := gb407) (o := .cells #[.int .u8 a0_0, .int .u8 a0_1, .int .u8 a0_2, .int .i16 a0_3, .int .i32 a0_4] 24 (0, 0)) (by first | exact BK407.out | exact blk_drewN BK407.out _)) : gb407 ≠ gb408)); have n6_ := am ((by rw [hg]; exact Nat.ne_of_gt (blk_lt (g := gb407) (o := .cells #[.int .u8 a0_0, .int .u8 a0_1, .int .u8 a0_2, .int .i16 a0_3, .int .i32 a0_4] 24 (0, 0)) (by first | exact BK407.out | exact blk_drewN BK407.out _)) : gb408 ≠ gb407)); clear BK407; clear HB; have BK407 := n0_; have HB := n1_; have BK408 := n2_; have GW408 := n3_; have GE408 := n4_; have NB407_408 := n5_; have NB408_407 := n6_; clear n0_ n1_ n2_ n3_ n4_ n5_ n6_; clear hb hbox hg) | ((with_reducible refine gate_callee (f := 14) rfl ?_); refine goesL_ (some 14) rfl rfl Try.func14 (by kernel_rfl) rfl #[] rfl (by (try simp only [List.map_toArray, List.map_cons, List.map_nil]); first | done | rfl) ?_; (with_reducible refine (wardenlaw07_alive.calls k t409 _ hr_ A5.out).mono ?_); rintro e w8 ⟨rfl, hb⟩; refine ⟨_, rfl, ?_⟩; have n0_ := am (blk_below (g := gb407) (o := .cells #[.int .u8 a0_0, .int .u8 a0_1, .int .u8 a0_2, .int .i16 a0_3, .int .i32 a0_4] 24 (0, 0)) (by first | exact BK407.out | exact blk_drewN BK407.out _) hb); have n1_ := am (blk_below (g := gb408) (o := .cells #[.int .u8 a1_0, .int .u8 a1_1, .int .u8 a1_2, .int .i16 a1_3, .int .i32 a1_4] 24 (0, 0)) (by first | exact BK408.out | exact blk_drewN BK408.out _) hb); have n2_ := am (below_step (by repeat (first | exact HB.out | apply pb | apply pa | apply pd | refine below_set ?_ GE407.out | refine below_set ?_ GE408.out)) hb); clear BK407; clear BK408; clear HB; have BK407 := n0_; have BK408 := n1_; have HB := n2_; clear n0_ n1_ n2_; (try clear hb); (try clear hb2); (try clear hk); (try clear hi)))
  go_ret
  exact ⟨by first | rfl | (simp [errW_none, errW_some] <;> rfl) | (simp [*, errW_none, errW_some] <;> rfl), by repeat (first | (with_reducible first | exact HB.out | apply below_alloc | apply pw_below_drewN | apply below_drew1 | refine below_set ?_ GE407.out | refine below_set ?_ GE408.out) | exact HB.out)⟩
 ·rw [if_neg c4] at H
  have c4b0 : decide (4096 < (a2.size : Int)) = false := decide_eq_false c4
  have c4b1 : decide (4096 < a2.size) = false := decide_eq_false (by omega)
  clear c4
  replace H := Option.bind_eq_some_iff.mp H
  obtain ⟨t410, A90, H⟩ := H
  try dsimp only at H
  have A9 := am A90
  clear A90
  replace H := Option.bind_eq_some_iff.mp H
  obtain ⟨⟨t411, t412, t413, t414, t415, t416⟩, A100, H⟩ := H
  try dsimp only at H
  have A10 := am A100
  clear A100
  replace H := Option.bind_eq_some_iff.mp H
  obtain ⟨⟨t418, t419, t420, t421, t422, t423⟩, A110, H⟩ := H
  try dsimp only at H
  have A11 := am A110
  clear A110
  by_cases c12 : (t411 == a0_0 && (t412 == (Int.tmod a0_1 16) && (t413 == (Int.tmod a0_2 16) && (t414 == a0_3 && (t415 == a0_4))))) = true
  ·rw [if_pos c12] at H
   have c12b0 : (t411 == a0_0 && (t412 == (Int.tmod a0_1 16) && (t413 == (Int.tmod a0_2 16) && (t414 == a0_3 && (t415 == a0_4))))) = true := c12
   (try (have c12b1 : decide (t411 = a0_0 && (t412 == (Int.tmod a0_1 16) && (t413 == (Int.tmod a0_2 16) && (t414 == a0_3 && (t415 == a0_4))))) = true := by simpa using c12))
   (try (have c12b2 : (t411 == a0_0 && (t412 == (Int.tmod a0_1 16) && (t413 == (Int.tmod a0_2 16) && (t414 == a0_3 && (t415 == a0_4))))) = true := by simpa using c12))
   clear c12
   by_cases c13 : t416 = 0
   ·rw [if_pos c13] at H
    have c13b0 : (t416 == 0) = true := beq_iff_eq.mpr c13
    have c13b1 : (t416 != 0) = false := bne_eq_false_iff_eq.mpr c13
    clear c13
    replace H := Option.bind_eq_some_iff.mp H
    obtain ⟨t425, A140, H⟩ := H
    try dsimp only at H
    have A14 := am A140
    clear A140
    by_cases c15 : (t425.size : Int) = 8
    ·rw [if_pos c15] at H
     have c15b0 : ((t425.size : Int) == 8) = true := beq_iff_eq.mpr c15
     have c15b1 : ((t425.size : Int) != 8) = false := bne_eq_false_iff_eq.mpr c15
     clear c15
     replace H := Option.bind_eq_some_iff.mp H
     obtain ⟨t426, A160, H⟩ := H
     try dsimp only at H
     have A16 := am A160
     clear A160
     replace H := Option.bind_eq_some_iff.mp H
     obtain ⟨t427, A170, H⟩ := H
     try dsimp only at H
     have A17 := am A170
     clear A170
     by_cases c18 : ((t426.toList == t427.toList) == (a0_0 == a1_0 && ((Int.tmod a0_1 16) == (Int.tmod a1_1 16) && ((Int.tmod a0_2 16) == (Int.tmod a1_2 16) && (a0_3 == a1_3 && (a0_4 == a1_4)))))) = true
     ·rw [if_pos c18] at H
      have c18b0 : ((t426.toList == t427.toList) == (a0_0 == a1_0 && ((Int.tmod a0_1 16) == (Int.tmod a1_1 16) && ((Int.tmod a0_2 16) == (Int.tmod a1_2 16) && (a0_3 == a1_3 && (a0_4 == a1_4)))))) = true := c18
      (try (have c18b1 : decide ((t426.toList == t427.toList) = (a0_0 == a1_0 && ((Int.tmod a0_1 16) == (Int.tmod a1_1 16) && ((Int.tmod a0_2 16) == (Int.tmod a1_2 16) && (a0_3 == a1_3 && (a0_4 == a1_4)))))) = true := by simpa using c18))
      (try (have c18b2 : ((t426.toList == t427.toList) == (a0_0 == a1_0 && ((Int.tmod a0_1 16) == (Int.tmod a1_1 16) && ((Int.tmod a0_2 16) == (Int.tmod a1_2 16) && (a0_3 == a1_3 && (a0_4 == a1_4)))))) = true := by simpa using c18))
      clear c18
      by_cases c19 : t423 = 0
      ·rw [if_pos c19] at H
       have c19b0 : (t423 == 0) = true := beq_iff_eq.mpr c19
       have c19b1 : (t423 != 0) = false := bne_eq_false_iff_eq.mpr c19
       clear c19
       replace H := Option.bind_eq_some_iff.mp H
       obtain ⟨t428, A200, H⟩ := H
       try dsimp only at H
       have A20 := am A200
       clear A200
       by_cases c21 : t428.toList = a2.toList
       ·rw [if_pos c21] at H
        have c21b0 : (t428.toList == a2.toList) = true := beq_iff_eq.mpr c21
        have c21b1 : (t428.toList != a2.toList) = false := bne_eq_false_iff_eq.mpr c21
        clear c21
        by_cases c22 : ((t423 == 0) == ((a2.size : Int) == 8)) = true
        ·rw [if_pos c22] at H
         have c22b0 : ((t423 == 0) == ((a2.size : Int) == 8)) = true := c22
         (try (have c22b1 : decide ((t423 == 0) = ((a2.size : Int) == 8)) = true := by simpa using c22))
         (try (have c22b2 : ((t423 == 0) == ((a2.size : Int) == 8)) = true := by simpa using c22))
         have c22z : ((a2.size : Int) == 8) = true := by rw [c19b0] at c22b0; simpa using c22b0
         clear c22
         replace H := Option.bind_eq_some_iff.mp H
         obtain ⟨t429, A230, H⟩ := H
         try dsimp only at H
         have A23 := am A230
         clear A230
         obtain rfl := Option.some.inj H
         go_enter Try.func5, Try.ntmps5
         try go_wp2_with (first | ((with_reducible refine gate_dst (N := 3) rfl ?_); (try (refine gate_guard (by rfl) ?_; dsimp only)); refine box_event ?hg (N := 3) ?hd (cs := #[.int .u8 a0_0, .int .u8 a0_1, .int .u8 a0_2, .int .i16 a0_3, .int .i32 a0_4]) (t := 24) ?hr ?_; (case hd => rfl); (case hg => rfl); (case hr => first | (go_simp; done) | (go_simp; rfl)); intro gb407 hg w24 hbox hb; have n0_ := am (below_step (by repeat (first | exact HB.out | apply pb | apply pa | apply pd)) hb); have n1_ := am (hbox); have n2_ := am ((by rw [hg]; exact (below_size (by repeat (first | exact HB.out | apply pb | apply pa | apply pd))) : w.heap.size ≤ gb407)); have n3_ := am ((by rw [hg]; exact (below_size (by repeat (first | exact HB.out | apply pb | apply pa | apply pd))) : w.heap.size ≤ gb407)); clear HB; have HB := n0_; have BK407 := n1_; have GW407 := n2_; have GE407 := n3_; clear n0_ n1_ n2_ n3_; clear hb hbox hg) | ((with_reducible refine gate_dst (N := 4) rfl ?_); (try (refine gate_guard (by rfl) ?_; dsimp only)); refine box_event ?hg (N := 4) ?hd (cs := #[.int .u8 a1_0, .int .u8 a1_1, .int .u8 a1_2, .int .i16 a1_3, .int .i32 a1_4]) (t := 24) ?hr ?_; (case hd => rfl); (case hg => rfl); (case hr => first | (go_simp; done) | (go_simp; rfl)); intro gb408 hg w25 hbox hb; have n0_ := am (blk_below (g := gb407) (o := .cells #[.int .u8 a0_0, .int .u8 a0_1, .int .u8 a0_2, .int .i16 a0_3, .int .i32 a0_4] 24 (0, 0)) (by first | exact BK407.out | exact blk_drewN BK407.out _) hb); have n1_ := am (below_step (by repeat (first | exact HB.out | apply pb | apply pa | apply pd | refine below_set ?_ GE407.out)) hb); have n2_ := am (hbox); have n3_ := am ((by rw [hg]; exact (below_size (by repeat (first | exact HB.out | apply pb | apply pa | apply pd | refine below_set ?_ GE407.out))) : w.heap.size ≤ gb408)); have n4_ := am ((by rw [hg]; exact (below_size (by repeat (first | exact HB.out | apply pb | apply pa | apply pd | refine below_set ?_ GE407.out))) : w.heap.size ≤ gb408)); have n5_ := am ((by rw [hg]; exact Nat.ne_of_lt (blk_lt (g := gb407) (o := .cells #[.int .u8 a0_0, .int .u8 a0_1, .int .u8 a0_2, .int .i16 a0_3, .int .i32 a0_4] 24 (0, 0)) (by first | exact BK407.out | exact blk_drewN BK407.out _)) : gb407 ≠ gb408)); have n6_ := am ((by rw [hg]; exact Nat.ne_of_gt (blk_lt (g := gb407) (o := .cells #[.int .u8 a0_0, .int .u8 a0_1, .int .u8 a0_2, .int .i16 a0_3, .int .i32 a0_4] 24 (0, 0)) (by first | exact BK407.out | exact blk_drewN BK407.out _)) : gb408 ≠ gb407)); clear BK407; clear HB; have BK407 := n0_; have HB := n1_; have BK408 := n2_; have GW408 := n3_; have GE408 := n4_; have NB407_408 := n5_; have NB408_407 := n6_; clear n0_ n1_ n2_ n3_ n4_ n5_ n6_; clear hb hbox hg; have hnb26 := NB407_408.out; have hnc26 := NB408_407.out; have hcz27_0 : w25.cell? ⟨gb407, 0, none⟩ = some (.int .u8 a0_0) := (blk_cell BK407.out 0).trans rfl; have hcz27_1 : w25.cell? ⟨gb407, 1, none⟩ = some (.int .u8 a0_1) := (blk_cell BK407.out 1).trans rfl; have hcz27_2 : w25.cell? ⟨gb407, 2, none⟩ = some (.int .u8 a0_2) := (blk_cell BK407.out 2).trans rfl; have hcz27_3 : w25.cell? ⟨gb407, 3, none⟩ = some (.int .i16 a0_3) := (blk_cell BK407.out 3).trans rfl; have hcz27_4 : w25.cell? ⟨gb407, 4, none⟩ = some (.int .i32 a0_4) := (blk_cell BK407.out 4).trans rfl; have hfz27_0 := blk_frozen BK407.out 0; have hfz27_1 := blk_frozen BK407.out 1; have hfz27_2 := blk_frozen BK407.out 2; have hfz27_3 := blk_frozen BK407.out 3; have hfz27_4 := blk_frozen BK407.out 4; have hcz28_0 : w25.cell? ⟨gb408, 0, none⟩ = some (.int .u8 a1_0) := (blk_cell BK408.out 0).trans rfl; have hcz28_1 : w25.cell? ⟨gb408, 1, none⟩ = some (.int .u8 a1_1) := (blk_cell BK408.out 1).trans rfl; have hcz28_2 : w25.cell? ⟨gb408, 2, none⟩ = some (.int .u8 a1_2) := (blk_cell BK408.out 2).trans rfl; have hcz28_3 : w25.cell? ⟨gb408, 3, none⟩ = some (.int .i16 a1_3) := (blk_cell BK408.out 3).trans rfl; have hcz28_4 : w25.cell? ⟨gb408, 4, none⟩ = some (.int .i32 a1_4) := (blk_cell BK408.out 4).trans rfl; have hfz28_0 := blk_frozen BK408.out 0; have hfz28_1 := blk_frozen BK408.out 1; have hfz28_2 := blk_frozen BK408.out 2; have hfz28_3 := blk_frozen BK408.out 3; have hfz28_4 := blk_frozen BK408.out 4) | ((with_reducible refine gate_callee (f := 17) rfl ?_); refine goesL_ (some 33) rfl rfl Try.func17 (by kernel_rfl) rfl #[.agg #[.int .u8 a0_0, .int .u8 (Int.tmod a0_1 16), .int .u8 (Int.tmod a0_2 16), .int .i16 a0_3, .int .i32 a0_4]] rfl (by (try simp only [List.map_toArray, List.map_cons, List.map_nil]); first | done | rfl) ?_; (with_reducible refine (insn_Encode.calls k a0_0 (Int.tmod a0_1 16) (Int.tmod a0_2 16) a0_3 a0_4 t410 _ A9.out).mono ?_); rintro e w29 ⟨rfl, hb⟩; refine ⟨_, rfl, ?_⟩; have n0_ := am (blk_below (g := gb407) (o := .cells #[.int .u8 a0_0, .int .u8 (Int.tmod a0_1 16), .int .u8 (Int.tmod a0_2 16), .int .i16 a0_3, .int .i32 a0_4] 24 (0, 0)) (by (with_reducible repeat (first | refine blk_drewN ?_ _ | refine blk_drew ?_ | refine blk_alloc ?_ _)); refine blk_far ?_ NB407_408.out _; (with_reducible repeat (first | refine blk_drewN ?_ _ | refine blk_drew ?_ | refine blk_alloc ?_ _)); refine blk_far ?_ NB407_408.out _; (with_reducible repeat (first | refine blk_drewN ?_ _ | refine blk_drew ?_ | refine blk_alloc ?_ _)); refine blk_put (cs := #[.int .u8 a0_0, .int .u8 (Int.tmod a0_1 16), .int .u8 a0_2, .int .i16 a0_3, .int .i32 a0_4]) ?_ 2 _ rfl; (with_reducible repeat (first | refine blk_drewN ?_ _ | refine blk_drew ?_ | refine blk_alloc ?_ _)); refine blk_put (cs := #[.int .u8 a0_0, .int .u8 a0_1, .int .u8 a0_2, .int .i16 a0_3, .int .i32 a0_4]) ?_ 1 _ rfl; (with_reducible repeat (first | refine blk_drewN ?_ _ | refine blk_drew ?_ | refine blk_alloc ?_ _)); exact BK407.out) hb); have n1_ := am (blk_below (g := gb408) (o := .cells #[.int .u8 a1_0, .int .u8 (Int.tmod a1_1 16), .int .u8 (Int.tmod a1_2 16), .int .i16 a1_3, .int .i32 a1_4] 24 (0, 0)) (by (with_reducible repeat (first | refine blk_drewN ?_ _ | refine blk_drew ?_ | refine blk_alloc ?_ _)); refine blk_put (cs := #[.int .u8 a1_0, .int .u8 (Int.tmod a1_1 16), .int .u8 a1_2, .int .i16 a1_3, .int .i32 a1_4]) ?_ 2 _ rfl; (with_reducible repeat (first | refine blk_drewN ?_ _ | refine blk_drew ?_ | refine blk_alloc ?_ _)); refine blk_put (cs := #[.int .u8 a1_0, .int .u8 a1_1, .int .u8 a1_2, .int .i16 a1_3, .int .i32 a1_4]) ?_ 1 _ rfl; (with_reducible repeat (first | refine blk_drewN ?_ _ | refine blk_drew ?_ | refine blk_alloc ?_ _)); refine blk_far ?_ NB408_407.out _; (with_reducible repeat (first | refine blk_drewN ?_ _ | refine blk_drew ?_ | refine blk_alloc ?_ _)); refine blk_far ?_ NB408_407.out _; (with_reducible repeat (first | refine blk_drewN ?_ _ | refine blk_drew ?_ | refine blk_alloc ?_ _)); exact BK408.out) hb); have n2_ := am (below_step (by repeat (first | exact HB.out | apply pb | apply pa | apply pd | refine below_set ?_ GE407.out | refine below_set ?_ GE408.out)) hb); clear BK407; clear BK408; clear HB; have BK407 := n0_; have BK408 := n1_; have HB := n2_; clear n0_ n1_ n2_; (try clear hb); (try clear hb2); (try clear hk); (try clear hi)) | ((with_reducible refine gate_callee (f := 15) rfl ?_); refine goesL_ (some 34) rfl rfl Try.func15 (by kernel_rfl) rfl #[.string t410] rfl (by (try simp only [List.map_toArray, List.map_cons, List.map_nil]); first | done | rfl) ?_; (with_reducible refine (insn_Decode.calls k t410 t411 t412 t413 t414 t415 t416 _ A10.out).mono ?_); rintro e w30 ⟨rfl, hb⟩; refine ⟨_, rfl, ?_⟩; have n0_ := am (blk_below (g := gb407) (o := .cells #[.int .u8 a0_0, .int .u8 (Int.tmod a0_1 16), .int .u8 (Int.tmod a0_2 16), .int .i16 a0_3, .int .i32 a0_4] 24 (0, 0)) (by first | exact BK407.out | exact blk_drewN BK407.out _) hb); have n1_ := am (blk_below (g := gb408) (o := .cells #[.int .u8 a1_0, .int .u8 (Int.tmod a1_1 16), .int .u8 (Int.tmod a1_2 16), .int .i16 a1_3, .int .i32 a1_4] 24 (0, 0)) (by first | exact BK408.out | exact blk_drewN BK408.out _) hb); have n2_ := am (below_step (by repeat (first | exact HB.out | apply pb | apply pa | apply pd | refine below_set ?_ GE407.out | refine below_set ?_ GE408.out)) hb); clear BK407; clear BK408; clear HB; have BK407 := n0_; have BK408 := n1_; have HB := n2_; clear n0_ n1_ n2_; (try clear hb); (try clear hb2); (try clear hk); (try clear hi)) | ((with_reducible refine gate_dst (N := 7) rfl ?_); (try (refine gate_guard (by rfl) ?_; dsimp only)); refine box_event ?hg (N := 7) ?hd (cs := #[.int .u8 0, .int .u8 0, .int .u8 0, .int .i16 0, .int .i32 0]) (t := 24) ?hr ?_; (case hd => rfl); (case hg => rfl); (case hr => first | (go_simp; done) | (go_simp; rfl)); intro gb417 hg w31 hbox hb; have n0_ := am (blk_below (g := gb407) (o := .cells #[.int .u8 a0_0, .int .u8 (Int.tmod a0_1 16), .int .u8 (Int.tmod a0_2 16), .int .i16 a0_3, .int .i32 a0_4] 24 (0, 0)) (by first | exact BK407.out | exact blk_drewN BK407.out _) hb); have n1_ := am (blk_below (g := gb408) (o := .cells #[.int .u8 a1_0, .int .u8 (Int.tmod a1_1 16), .int .u8 (Int.tmod a1_2 16), .int .i16 a1_3, .int .i32 a1_4] 24 (0, 0)) (by first | exact BK408.out | exact blk_drewN BK408.out _) hb); have n2_ := am (below_step (by repeat (first | exact HB.out | apply pb | apply pa | apply pd | refine below_set ?_ GE407.out | refine below_set ?_ GE408.out)) hb); have n3_ := am (hbox); have n4_ := am ((by rw [hg]; exact (below_size (by repeat (first | exact HB.out | apply pb | apply pa | apply pd | refine below_set ?_ GE407.out | refine below_set ?_ GE408.out))) : w.heap.size ≤ gb417)); have n5_ := am ((by rw [hg]; exact (below_size (by repeat (first | exact HB.out | apply pb | apply pa | apply pd | refine below_set ?_ GE407.out | refine below_set ?_ GE408.out))) : w.heap.size ≤ gb417)); have n6_ := am ((by rw [hg]; exact Nat.ne_of_lt (blk_lt (g := gb407) (o := .cells #[.int .u8 a0_0, .int .u8 (Int.tmod a0_1 16), .int .u8 (Int.tmod a0_2 16), .int .i16 a0_3, .int .i32 a0_4] 24 (0, 0)) (by first | exact BK407.out | exact blk_drewN BK407.out _)) : gb407 ≠ gb417)); have n7_ := am ((by rw [hg]; exact Nat.ne_of_gt (blk_lt (g := gb407) (o := .cells #[.int .u8 a0_0, .int .u8 (Int.tmod a0_1 16), .int .u8 (Int.tmod a0_2 16), .int .i16 a0_3, .int .i32 a0_4] 24 (0, 0)) (by first | exact BK407.out | exact blk_drewN BK407.out _)) : gb417 ≠ gb407)); have n8_ := am ((by rw [hg]; exact Nat.ne_of_lt (blk_lt (g := gb408) (o := .cells #[.int .u8 a1_0, .int .u8 (Int.tmod a1_1 16), .int .u8 (Int.tmod a1_2 16), .int .i16 a1_3, .int .i32 a1_4] 24 (0, 0)) (by first | exact BK408.out | exact blk_drewN BK408.out _)) : gb408 ≠ gb417)); have n9_ := am ((by rw [hg]; exact Nat.ne_of_gt (blk_lt (g := gb408) (o := .cells #[.int .u8 a1_0, .int .u8 (Int.tmod a1_1 16), .int .u8 (Int.tmod a1_2 16), .int .i16 a1_3, .int .i32 a1_4] 24 (0, 0)) (by first | exact BK408.out | exact blk_drewN BK408.out _)) : gb417 ≠ gb408)); clear BK407; clear BK408; clear HB; have BK407 := n0_; have BK408 := n1_; have HB := n2_; have BK417 := n3_; have GW417 := n4_; have GE417 := n5_; have NB407_417 := n6_; have NB417_407 := n7_; have NB408_417 := n8_; have NB417_408 := n9_; clear n0_ n1_ n2_ n3_ n4_ n5_ n6_ n7_ n8_ n9_; clear hb hbox hg; have hnb32 := NB417_407.out; have hnc32 := NB407_417.out; have hnb33 := NB417_408.out; have hnc33 := NB408_417.out; have hcz34_0 : w31.cell? ⟨gb417, 0, none⟩ = some (.int .u8 0) := (blk_cell BK417.out 0).trans rfl; have hcz34_1 : w31.cell? ⟨gb417, 1, none⟩ = some (.int .u8 0) := (blk_cell BK417.out 1).trans rfl; have hcz34_2 : w31.cell? ⟨gb417, 2, none⟩ = some (.int .u8 0) := (blk_cell BK417.out 2).trans rfl; have hcz34_3 : w31.cell? ⟨gb417, 3, none⟩ = some (.int .i16 0) := (blk_cell BK417.out 3).trans rfl; have hcz34_4 : w31.cell? ⟨gb417, 4, none⟩ = some (.int .i32 0) := (blk_cell BK417.out 4).trans rfl; have hfz34_0 := blk_frozen BK417.out 0; have hfz34_1 := blk_frozen BK417.out 1; have hfz34_2 := blk_frozen BK417.out 2; have hfz34_3 := blk_frozen BK417.out 3; have hfz34_4 := blk_frozen BK417.out 4) | ((with_reducible refine gate_callee (f := 15) rfl ?_); refine goesL_ (some 39) rfl rfl Try.func15 (by kernel_rfl) rfl #[.string a2] rfl (by (try simp only [List.map_toArray, List.map_cons, List.map_nil]); first | done | rfl) ?_; (with_reducible refine (insn_Decode.calls k a2 t418 t419 t420 t421 t422 t423 _ A11.out).mono ?_); rintro e w35 ⟨rfl, hb⟩; refine ⟨_, rfl, ?_⟩; have n0_ := am (blk_below (g := gb407) (o := .cells #[.int .u8 a0_0, .int .u8 (Int.tmod a0_1 16), .int .u8 (Int.tmod a0_2 16), .int .i16 a0_3, .int .i32 a0_4] 24 (0, 0)) (by (with_reducible repeat (first | refine blk_drewN ?_ _ | refine blk_drew ?_ | refine blk_alloc ?_ _)); refine blk_far ?_ NB407_417.out _; (with_reducible repeat (first | refine blk_drewN ?_ _ | refine blk_drew ?_ | refine blk_alloc ?_ _)); refine blk_far ?_ NB407_417.out _; (with_reducible repeat (first | refine blk_drewN ?_ _ | refine blk_drew ?_ | refine blk_alloc ?_ _)); refine blk_far ?_ NB407_417.out _; (with_reducible repeat (first | refine blk_drewN ?_ _ | refine blk_drew ?_ | refine blk_alloc ?_ _)); refine blk_far ?_ NB407_417.out _; (with_reducible repeat (first | refine blk_drewN ?_ _ | refine blk_drew ?_ | refine blk_alloc ?_ _)); refine blk_far ?_ NB407_417.out _; (with_reducible repeat (first | refine blk_drewN ?_ _ | refine blk_drew ?_ | refine blk_alloc ?_ _)); exact BK407.out) hb); have n1_ := am (blk_below (g := gb408) (o := .cells #[.int .u8 a1_0, .int .u8 (Int.tmod a1_1 16), .int .u8 (Int.tmod a1_2 16), .int .i16 a1_3, .int .i32 a1_4] 24 (0, 0)) (by (with_reducible repeat (first | refine blk_drewN ?_ _ | refine blk_drew ?_ | refine blk_alloc ?_ _)); refine blk_far ?_ NB408_417.out _; (with_reducible repeat (first | refine blk_drewN ?_ _ | refine blk_drew ?_ | refine blk_alloc ?_ _)); refine blk_far ?_ NB408_417.out _; (with_reducible repeat (first | refine blk_drewN ?_ _ | refine blk_drew ?_ | refine blk_alloc ?_ _)); refine blk_far ?_ NB408_417.out _; (with_reducible repeat (first | refine blk_drewN ?_ _ | refine blk_drew ?_ | refine blk_alloc ?_ _)); refine blk_far ?_ NB408_417.out _; (with_reducible repeat (first | refine blk_drewN ?_ _ | refine blk_drew ?_ | refine blk_alloc ?_ _)); refine blk_far ?_ NB408_417.out _; (with_reducible repeat (first | refine blk_drewN ?_ _ | refine blk_drew ?_ | refine blk_alloc ?_ _)); exact BK408.out) hb); have n2_ := am (blk_below (g := gb417) (o := .cells #[.int .u8 t411, .int .u8 t412, .int .u8 t413, .int .i16 t414, .int .i32 t415] 24 (0, 0)) (by (with_reducible repeat (first | refine blk_drewN ?_ _ | refine blk_drew ?_ | refine blk_alloc ?_ _)); refine blk_put (cs := #[.int .u8 t411, .int .u8 t412, .int .u8 t413, .int .i16 t414, .int .i32 0]) ?_ 4 _ rfl; (with_reducible repeat (first | refine blk_drewN ?_ _ | refine blk_drew ?_ | refine blk_alloc ?_ _)); refine blk_put (cs := #[.int .u8 t411, .int .u8 t412, .int .u8 t413, .int .i16 0, .int .i32 0]) ?_ 3 _ rfl; (with_reducible repeat (first | refine blk_drewN ?_ _ | refine blk_drew ?_ | refine blk_alloc ?_ _)); refine blk_put (cs := #[.int .u8 t411, .int .u8 t412, .int .u8 0, .int .i16 0, .int .i32 0]) ?_ 2 _ rfl; (with_reducible repeat (first | refine blk_drewN ?_ _ | refine blk_drew ?_ | refine blk_alloc ?_ _)); refine blk_put (cs := #[.int .u8 t411, .int .u8 0, .int .u8 0, .int .i16 0, .int .i32 0]) ?_ 1 _ rfl; (with_reducible repeat (first | refine blk_drewN ?_ _ | refine blk_drew ?_ | refine blk_alloc ?_ _)); refine blk_put (cs := #[.int .u8 0, .int .u8 0, .int .u8 0, .int .i16 0, .int .i32 0]) ?_ 0 _ rfl; (with_reducible repeat (first | refine blk_drewN ?_ _ | refine blk_drew ?_ | refine blk_alloc ?_ _)); exact BK417.out) hb); have n3_ := am (below_step (by repeat (first | exact HB.out | apply pb | apply pa | apply pd | refine below_set ?_ GE407.out | refine below_set ?_ GE408.out | refine below_set ?_ GE417.out)) hb); clear BK407; clear BK408; clear BK417; clear HB; have BK407 := n0_; have BK408 := n1_; have BK417 := n2_; have HB := n3_; clear n0_ n1_ n2_ n3_; (try clear hb); (try clear hb2); (try clear hk); (try clear hi)) | ((with_reducible refine gate_dst (N := 9) rfl ?_); (try (refine gate_guard (by rfl) ?_; dsimp only)); refine box_event ?hg (N := 9) ?hd (cs := #[.int .u8 0, .int .u8 0, .int .u8 0, .int .i16 0, .int .i32 0]) (t := 24) ?hr ?_; (case hd => rfl); (case hg => rfl); (case hr => first | (go_simp; done) | (go_simp; rfl)); intro gb424 hg w36 hbox hb; have n0_ := am (blk_below (g := gb407) (o := .cells #[.int .u8 a0_0, .int .u8 (Int.tmod a0_1 16), .int .u8 (Int.tmod a0_2 16), .int .i16 a0_3, .int .i32 a0_4] 24 (0, 0)) (by first | exact BK407.out | exact blk_drewN BK407.out _) hb); have n1_ := am (blk_below (g := gb408) (o := .cells #[.int .u8 a1_0, .int .u8 (Int.tmod a1_1 16), .int .u8 (Int.tmod a1_2 16), .int .i16 a1_3, .int .i32 a1_4] 24 (0, 0)) (by first | exact BK408.out | exact blk_drewN BK408.out _) hb); have n2_ := am (blk_below (g := gb417) (o := .cells #[.int .u8 t411, .int .u8 t412, .int .u8 t413, .int .i16 t414, .int .i32 t415] 24 (0, 0)) (by first | exact BK417.out | exact blk_drewN BK417.out _) hb); have n3_ := am (below_step (by repeat (first | exact HB.out | apply pb | apply pa | apply pd | refine below_set ?_ GE407.out | refine below_set ?_ GE408.out | refine below_set ?_ GE417.out)) hb); have n4_ := am (hbox); have n5_ := am ((by rw [hg]; exact (below_size (by repeat (first | exact HB.out | apply pb | apply pa | apply pd | refine below_set ?_ GE407.out | refine below_set ?_ GE408.out | refine below_set ?_ GE417.out))) : w.heap.size ≤ gb424)); have n6_ := am ((by rw [hg]; exact (below_size (by repeat (first | exact HB.out | apply pb | apply pa | apply pd | refine below_set ?_ GE407.out | refine below_set ?_ GE408.out | refine below_set ?_ GE417.out))) : w.heap.size ≤ gb424)); have n7_ := am ((by rw [hg]; exact Nat.ne_of_lt (blk_lt (g := gb407) (o := .cells #[.int .u8 a0_0, .int .u8 (Int.tmod a0_1 16), .int .u8 (Int.tmod a0_2 16), .int .i16 a0_3, .int .i32 a0_4] 24 (0, 0)) (by first | exact BK407.out | exact blk_drewN BK407.out _)) : gb407 ≠ gb424)); have n8_ := am ((by rw [hg]; exact Nat.ne_of_gt (blk_lt (g := gb407) (o := .cells #[.int .u8 a0_0, .int .u8 (Int.tmod a0_1 16), .int .u8 (Int.tmod a0_2 16), .int .i16 a0_3, .int .i32 a0_4] 24 (0, 0)) (by first | exact BK407.out | exact blk_drewN BK407.out _)) : gb424 ≠ gb407)); have n9_ := am ((by rw [hg]; exact Nat.ne_of_lt (blk_lt (g := gb408) (o := .cells #[.int .u8 a1_0, .int .u8 (Int.tmod a1_1 16), .int .u8 (Int.tmod a1_2 16), .int .i16 a1_3, .int .i32 a1_4] 24 (0, 0)) (by first | exact BK408.out | exact blk_drewN BK408.out _)) : gb408 ≠ gb424)); have n10_ := am ((by rw [hg]; exact Nat.ne_of_gt (blk_lt (g := gb408) (o := .cells #[.int .u8 a1_0, .int .u8 (Int.tmod a1_1 16), .int .u8 (Int.tmod a1_2 16), .int .i16 a1_3, .int .i32 a1_4] 24 (0, 0)) (by first | exact BK408.out | exact blk_drewN BK408.out _)) : gb424 ≠ gb408)); have n11_ := am ((by rw [hg]; exact Nat.ne_of_lt (blk_lt (g := gb417) (o := .cells #[.int .u8 t411, .int .u8 t412, .int .u8 t413, .int .i16 t414, .int .i32 t415] 24 (0, 0)) (by first | exact BK417.out | exact blk_drewN BK417.out _)) : gb417 ≠ gb424)); have n12_ := am ((by rw [hg]; exact Nat.ne_of_gt (blk_lt (g := gb417) (o := .cells #[.int .u8 t411, .int .u8 t412, .int .u8 t413, .int .i16 t414, .int .i32 t415] 24 (0, 0)) (by first | exact BK417.out | exact blk_drewN BK417.out _)) : gb424 ≠ gb417)); clear BK407; clear BK408; clear BK417; clear HB; have BK407 := n0_; have BK408 := n1_; have BK417 := n2_; have HB := n3_; have BK424 := n4_; have GW424 := n5_; have GE424 := n6_; have NB407_424 := n7_; have NB424_407 := n8_; have NB408_424 := n9_; have NB424_408 := n10_; have NB417_424 := n11_; have NB424_417 := n12_; clear n0_ n1_ n2_ n3_ n4_ n5_ n6_ n7_ n8_ n9_ n10_ n11_ n12_; clear hb hbox hg; have hnb37 := NB424_407.out; have hnc37 := NB407_424.out; have hnb38 := NB424_408.out; have hnc38 := NB408_424.out; have hnb39 := NB424_417.out; have hnc39 := NB417_424.out; have hcz40_0 : w36.cell? ⟨gb424, 0, none⟩ = some (.int .u8 0) := (blk_cell BK424.out 0).trans rfl; have hcz40_1 : w36.cell? ⟨gb424, 1, none⟩ = some (.int .u8 0) := (blk_cell BK424.out 1).trans rfl; have hcz40_2 : w36.cell? ⟨gb424, 2, none⟩ = some (.int .u8 0) := (blk_cell BK424.out 2).trans rfl; have hcz40_3 : w36.cell? ⟨gb424, 3, none⟩ = some (.int .i16 0) := (blk_cell BK424.out 3).trans rfl; have hcz40_4 : w36.cell? ⟨gb424, 4, none⟩ = some (.int .i32 0) := (blk_cell BK424.out 4).trans rfl; have hfz40_0 := blk_frozen BK424.out 0; have hfz40_1 := blk_frozen BK424.out 1; have hfz40_2 := blk_frozen BK424.out 2; have hfz40_3 := blk_frozen BK424.out 3; have hfz40_4 := blk_frozen BK424.out 4))
         have n0_ : Aside0 ((((((w36.setCell ⟨gb424, 0, none⟩ (.int .u8 t418)).setCell ⟨gb424, 1, none⟩ (.int .u8 t419)).setCell ⟨gb424, 2, none⟩ (.int .u8 t420)).setCell ⟨gb424, 3, none⟩ (.int .i16 t421)).setCell ⟨gb424, 4, none⟩ (.int .i32 t422)).heap[gb407]? = some (.cells #[.int .u8 a0_0, .int .u8 (Int.tmod a0_1 16), .int .u8 (Int.tmod a0_2 16), .int .i16 a0_3, .int .i32 a0_4] 24 (0, 0))) := ⟨by (with_reducible repeat (first | refine blk_drewN ?_ _ | refine blk_drew ?_ | refine blk_alloc ?_ _)); refine blk_far ?_ NB407_424.out _; (with_reducible repeat (first | refine blk_drewN ?_ _ | refine blk_drew ?_ | refine blk_alloc ?_ _)); refine blk_far ?_ NB407_424.out _; (with_reducible repeat (first | refine blk_drewN ?_ _ | refine blk_drew ?_ | refine blk_alloc ?_ _)); refine blk_far ?_ NB407_424.out _; (with_reducible repeat (first | refine blk_drewN ?_ _ | refine blk_drew ?_ | refine blk_alloc ?_ _)); refine blk_far ?_ NB407_424.out _; (with_reducible repeat (first | refine blk_drewN ?_ _ | refine blk_drew ?_ | refine blk_alloc ?_ _)); refine blk_far ?_ NB407_424.out _; (with_reducible repeat (first | refine blk_drewN ?_ _ | refine blk_drew ?_ | refine blk_alloc ?_ _)); exact BK407.out⟩
         have n1_ : Aside0 ((((((w36.setCell ⟨gb424, 0, none⟩ (.int .u8 t418)).setCell ⟨gb424, 1, none⟩ (.int .u8 t419)).setCell ⟨gb424, 2, none⟩ (.int .u8 t420)).setCell ⟨gb424, 3, none⟩ (.int .i16 t421)).setCell ⟨gb424, 4, none⟩ (.int .i32 t422)).heap[gb408]? = some (.cells #[.int .u8 a1_0, .int .u8 (Int.tmod a1_1 16), .int .u8 (Int.tmod a1_2 16), .int .i16 a1_3, .int .i32 a1_4] 24 (0, 0))) := ⟨by (with_reducible repeat (first | refine blk_drewN ?_ _ | refine blk_drew ?_ | refine blk_alloc ?_ _)); refine blk_far ?_ NB408_424.out _; (with_reducible repeat (first | refine blk_drewN ?_ _ | refine blk_drew ?_ | refine blk_alloc ?_ _)); refine blk_far ?_ NB408_424.out _; (with_reducible repeat (first | refine blk_drewN ?_ _ | refine blk_drew ?_ | refine blk_alloc ?_ _)); refine blk_far ?_ NB408_424.out _; (with_reducible repeat (first | refine blk_drewN ?_ _ | refine blk_drew ?_ | refine blk_alloc ?_ _)); refine blk_far ?_ NB408_424.out _; (with_reducible repeat (first | refine blk_drewN ?_ _ | refine blk_drew ?_ | refine blk_alloc ?_ _)); refine blk_far ?_ NB408_424.out _; (with_reducible repeat (first | refine blk_drewN ?_ _ | refine blk_drew ?_ | refine blk_alloc ?_ _)); exact BK408.out⟩
         have n2_ : Aside0 ((((((w36.setCell ⟨gb424, 0, none⟩ (.int .u8 t418)).setCell ⟨gb424, 1, none⟩ (.int .u8 t419)).setCell ⟨gb424, 2, none⟩ (.int .u8 t420)).setCell ⟨gb424, 3, none⟩ (.int .i16 t421)).setCell ⟨gb424, 4, none⟩ (.int .i32 t422)).heap[gb417]? = some (.cells #[.int .u8 t411, .int .u8 t412, .int .u8 t413, .int .i16 t414, .int .i32 t415] 24 (0, 0))) := ⟨by (with_reducible repeat (first | refine blk_drewN ?_ _ | refine blk_drew ?_ | refine blk_alloc ?_ _)); refine blk_far ?_ NB417_424.out _; (with_reducible repeat (first | refine blk_drewN ?_ _ | refine blk_drew ?_ | refine blk_alloc ?_ _)); refine blk_far ?_ NB417_424.out _; (with_reducible repeat (first | refine blk_drewN ?_ _ | refine blk_drew ?_ | refine blk_alloc ?_ _)); refine blk_far ?_ NB417_424.out _; (with_reducible repeat (first | refine blk_drewN ?_ _ | refine blk_drew ?_ | refine blk_alloc ?_ _)); refine blk_far ?_ NB417_424.out _; (with_reducible repeat (first | refine blk_drewN ?_ _ | refine blk_drew ?_ | refine blk_alloc ?_ _)); refine blk_far ?_ NB417_424.out _; (with_reducible repeat (first | refine blk_drewN ?_ _ | refine blk_drew ?_ | refine blk_alloc ?_ _)); exact BK417.out⟩
         have n3_ : Aside0 ((((((w36.setCell ⟨gb424, 0, none⟩ (.int .u8 t418)).setCell ⟨gb424, 1, none⟩ (.int .u8 t419)).setCell ⟨gb424, 2, none⟩ (.int .u8 t420)).setCell ⟨gb424, 3, none⟩ (.int .i16 t421)).setCell ⟨gb424, 4, none⟩ (.int .i32 t422)).heap[gb424]? = some (.cells #[.int .u8 t418, .int .u8 t419, .int .u8 t420, .int .i16 t421, .int .i32 t422] 24 (0, 0))) := ⟨by (with_reducible repeat (first | refine blk_drewN ?_ _ | refine blk_drew ?_ | refine blk_alloc ?_ _)); refine blk_put (cs := #[.int .u8 t418, .int .u8 t419, .int .u8 t420, .int .i16 t421, .int .i32 0]) ?_ 4 _ rfl; (with_reducible repeat (first | refine blk_drewN ?_ _ | refine blk_drew ?_ | refine blk_alloc ?_ _)); refine blk_put (cs := #[.int .u8 t418, .int .u8 t419, .int .u8 t420, .int .i16 0, .int .i32 0]) ?_ 3 _ rfl; (with_reducible repeat (first | refine blk_drewN ?_ _ | refine blk_drew ?_ | refine blk_alloc ?_ _)); refine blk_put (cs := #[.int .u8 t418, .int .u8 t419, .int .u8 0, .int .i16 0, .int .i32 0]) ?_ 2 _ rfl; (with_reducible repeat (first | refine blk_drewN ?_ _ | refine blk_drew ?_ | refine blk_alloc ?_ _)); refine blk_put (cs := #[.int .u8 t418, .int .u8 0, .int .u8 0, .int .i16 0, .int .i32 0]) ?_ 1 _ rfl; (with_reducible repeat (first | refine blk_drewN ?_ _ | refine blk_drew ?_ | refine blk_alloc ?_ _)); refine blk_put (cs := #[.int .u8 0, .int .u8 0, .int .u8 0, .int .i16 0, .int .i32 0]) ?_ 0 _ rfl; (with_reducible repeat (first | refine blk_drewN ?_ _ | refine blk_drew ?_ | refine blk_alloc ?_ _)); exact BK424.out⟩
         have n4_ : Aside0 (Below w.heap.size w (((((w36.setCell ⟨gb424, 0, none⟩ (.int .u8 t418)).setCell ⟨gb424, 1, none⟩ (.int .u8 t419)).setCell ⟨gb424, 2, none⟩ (.int .u8 t420)).setCell ⟨gb424, 3, none⟩ (.int .i16 t421)).setCell ⟨gb424, 4, none⟩ (.int .i32 t422))) := ⟨by repeat (first | (with_reducible first | exact HB.out | apply below_alloc | apply pw_below_drewN | apply below_drew1 | refine below_set ?_ GE407.out | refine below_set ?_ GE408.out | refine below_set ?_ GE417.out | refine below_set ?_ GE424.out) | exact HB.out)⟩
         (try clear BK407)
         (try clear BK408)
         (try clear BK417)
         (try clear BK424)
         (try clear HB)
         generalize (((((w36.setCell ⟨gb424, 0, none⟩ (.int .u8 t418)).setCell ⟨gb424, 1, none⟩ (.int .u8 t419)).setCell ⟨gb424, 2, none⟩ (.int .u8 t420)).setCell ⟨gb424, 3, none⟩ (.int .i16 t421)).setCell ⟨gb424, 4, none⟩ (.int .i32 t422)) = w41 at n0_ n1_ n2_ n3_ n4_ ⊢
         have BK407 := n0_
         have BK408 := n1_
         have BK417 := n2_
         have BK424 := n3_
         have HB := n4_
         clear n0_ n1_ n2_ n3_ n4_
         have n0_ := am (blk_drew BK407.out)
         have n1_ := am (blk_drew BK408.out)
         have n2_ := am (blk_drew BK417.out)
         have n3_ := am (blk_drew BK424.out)
         have n4_ := am (below_drew1 HB.out)
         clear BK407
         clear BK408
         clear BK417
         clear BK424
         clear HB
         have BK407 := n0_
         have BK408 := n1_
         have BK417 := n2_
         have BK424 := n3_
         have HB := n4_
         clear n0_ n1_ n2_ n3_ n4_
         refine start_ (n := 46) (S := fun w' => w'.cell? ⟨gb417, 0, none⟩ = some (.int .u8 t411) ∧ w'.cell? ⟨gb417, 1, none⟩ = some (.int .u8 t412) ∧ w'.cell? ⟨gb417, 2, none⟩ = some (.int .u8 t413) ∧ w'.cell? ⟨gb417, 3, none⟩ = some (.int .i16 t414) ∧ w'.cell? ⟨gb417, 4, none⟩ = some (.int .i32 t415) ∧ w'.cell? ⟨gb407, 0, none⟩ = some (.int .u8 a0_0) ∧ w'.cell? ⟨gb407, 1, none⟩ = some (.int .u8 (Int.tmod a0_1 16)) ∧ w'.cell? ⟨gb407, 2, none⟩ = some (.int .u8 (Int.tmod a0_2 16)) ∧ w'.cell? ⟨gb407, 3, none⟩ = some (.int .i16 a0_3) ∧ w'.cell? ⟨gb407, 4, none⟩ = some (.int .i32 a0_4) ∧ w'.cell? ⟨gb408, 0, none⟩ = some (.int .u8 a1_0) ∧ w'.cell? ⟨gb408, 1, none⟩ = some (.int .u8 (Int.tmod a1_1 16)) ∧ w'.cell? ⟨gb408, 2, none⟩ = some (.int .u8 (Int.tmod a1_2 16)) ∧ w'.cell? ⟨gb408, 3, none⟩ = some (.int .i16 a1_3) ∧ w'.cell? ⟨gb408, 4, none⟩ = some (.int .i32 a1_4) ∧ w'.cell? ⟨gb424, 0, none⟩ = some (.int .u8 t418) ∧ w'.cell? ⟨gb424, 1, none⟩ = some (.int .u8 t419) ∧ w'.cell? ⟨gb424, 2, none⟩ = some (.int .u8 t420) ∧ w'.cell? ⟨gb424, 3, none⟩ = some (.int .i16 t421) ∧ w'.cell? ⟨gb424, 4, none⟩ = some (.int .i32 t422)) (ds := []) (ar 46 0) (by kernel_rfl) rfl rfl ⟨(blk_cell BK417.out 0).trans rfl, (blk_cell BK417.out 1).trans rfl, (blk_cell BK417.out 2).trans rfl, (blk_cell BK417.out 3).trans rfl, (blk_cell BK417.out 4).trans rfl, (blk_cell BK407.out 0).trans rfl, (blk_cell BK407.out 1).trans rfl, (blk_cell BK407.out 2).trans rfl, (blk_cell BK407.out 3).trans rfl, (blk_cell BK407.out 4).trans rfl, (blk_cell BK408.out 0).trans rfl, (blk_cell BK408.out 1).trans rfl, (blk_cell BK408.out 2).trans rfl, (blk_cell BK408.out 3).trans rfl, (blk_cell BK408.out 4).trans rfl, (blk_cell BK424.out 0).trans rfl, (blk_cell BK424.out 1).trans rfl, (blk_cell BK424.out 2).trans rfl, (blk_cell BK424.out 3).trans rfl, (blk_cell BK424.out 4).trans rfl⟩ (fun hHeld => ?_); refine with_tabW wardenlaw07_InsnBack.tab9 wardenlaw07_InsnBack.bits9 (fun HT_ HW_ => ?_)
         generalize w41.drew = w42 at BK407 BK408 BK417 BK424 HB hHeld ⊢
         refine take_ (i := 0) (N := some 42) (v := ?_) (a' := ?_) (ar 46 1) rfl rfl (take_ofW HT_.out HW_.out (by kernel_rfl)) (fun _ _ _ h => h) (Or.inl ⟨by rfl, ?_⟩) hHeld ?_ ?_
         rotate_left
         ·rintro w' ⟨s0, s1, s2, s3, s4, s5, s6, s7, s8, s9, s10, s11, s12, s13, s14, s15, s16, s17, s18, s19⟩
          go_simp
          with_reducible rfl
         rotate_left
         ·simp only [Act.put, q1, q2, q3, i64_w, i32_w]
          rfl
         refine take_ (i := 1) (N := some 43) (v := ?_) (a' := ?_) (ar 46 3) rfl rfl (take_ofW HT_.out HW_.out (by kernel_rfl)) (fun _ _ _ h => h) (Or.inl ⟨by rfl, ?_⟩) hHeld ?_ ?_
         rotate_left
         ·rintro w' ⟨s0, s1, s2, s3, s4, s5, s6, s7, s8, s9, s10, s11, s12, s13, s14, s15, s16, s17, s18, s19⟩
          go_simp
          with_reducible rfl
         rotate_left
         ·simp only [Act.put, q1, q2, q3, i64_w, i32_w]
          rfl
         refine pure_ (i := 2) (N := some 44) (v := ?_) (a' := ?_) (ar 46 7) rfl rfl (any_of HT_.out (by kernel_rfl)) (fun _ _ _ h => h) (Or.inl ⟨by rfl, ?_⟩) ?_ ?_
         rotate_left
         ·intro w'
          go_simp
          with_reducible rfl
         rotate_left
         ·simp only [Act.put, q1, q2, q3, i64_w, i32_w]
          rfl
         refine pure_ (i := 3) (N := some 45) (v := ?_) (a' := ?_) (ar 46 15) rfl rfl (any_of HT_.out (by kernel_rfl)) (fun _ _ _ h => h) (Or.inl ⟨by rfl, ?_⟩) ?_ ?_
         rotate_left
         ·intro w'
          go_simp
          with_reducible rfl
         rotate_left
         ·simp only [Act.put, q1, q2, q3, i64_w, i32_w]
          rfl
         refine pure_ (i := 4) (N := some 46) (v := ?_) (a' := ?_) (ar 46 31) rfl rfl (any_of HT_.out (by kernel_rfl)) (fun _ _ _ h => h) (Or.inl ⟨by rfl, ?_⟩) ?_ ?_
         rotate_left
         ·intro w'
          go_simp
          with_reducible rfl
         rotate_left
         ·simp only [Act.put, q1, q2, q3, i64_w, i32_w]
          rfl
         refine pure_ (i := 5) (N := some 47) (v := ?_) (a' := ?_) (ar 46 63) rfl rfl (any_of HT_.out (by kernel_rfl)) (fun _ _ _ h => h) (Or.inl ⟨by rfl, ?_⟩) ?_ ?_
         rotate_left
         ·intro w'
          go_simp
          with_reducible rfl
         rotate_left
         ·simp only [Act.put, q1, q2, q3, i64_w, i32_w]
          rfl
         refine pure_ (i := 6) (N := some 48) (v := ?_) (a' := ?_) (ar 46 127) rfl rfl (any_of HT_.out (by kernel_rfl)) (fun _ _ _ h => h) (Or.inl ⟨by rfl, ?_⟩) ?_ ?_
         rotate_left
         ·intro w'
          go_simp
          with_reducible rfl
         rotate_left
         ·simp only [Act.put, q1, q2, q3, i64_w, i32_w]
          rfl
         refine pure_ (i := 7) (N := some 49) (v := ?_) (a' := ?_) (ar 46 255) rfl rfl (any_of HT_.out (by kernel_rfl)) (fun _ _ _ h => h) (Or.inl ⟨by rfl, ?_⟩) ?_ ?_
         rotate_left
         ·intro w'
          go_simp
          with_reducible rfl
         rotate_left
         ·simp only [Act.put, q1, q2, q3, i64_w, i32_w]
          rfl
         refine take_ (i := 8) (N := some 50) (v := ?_) (a' := ?_) (ar 46 511) rfl rfl (take_ofW HT_.out HW_.out (by kernel_rfl)) (fun _ _ _ h => h) (Or.inl ⟨by rfl, ?_⟩) hHeld ?_ ?_
         rotate_left
         ·rintro w' ⟨s0, s1, s2, s3, s4, s5, s6, s7, s8, s9, s10, s11, s12, s13, s14, s15, s16, s17, s18, s19⟩
          go_simp
          with_reducible rfl
         rotate_left
         ·simp only [Act.put, q1, q2, q3, i64_w, i32_w]
          rfl
         refine one_ (i := 9) (N := some 51) (ar 46 1023) rfl rfl (one_of HT_.out (by kernel_rfl)) (by decide) (fun K hK => ?_)
         refine goes_ Try.func17 (by kernel_rfl) rfl #[.agg #[.int .u8 a0_0, .int .u8 (Int.tmod a0_1 16), .int .u8 (Int.tmod a0_2 16), .int .i16 a0_3, .int .i32 a0_4]] (by rfl) rfl rfl (by (try simp only [List.map_toArray, List.map_cons, List.map_nil]); first | done | rfl) ?_
         with_reducible refine (insn_Encode.calls k a0_0 (Int.tmod a0_1 16) (Int.tmod a0_2 16) a0_3 a0_4 t425 _ A14.out).mono ?_
         rintro e w43 ⟨rfl, hb⟩
         refine ⟨_, rfl, ?_⟩
         have n0_ := am (blk_below (g := gb407) (o := .cells #[.int .u8 a0_0, .int .u8 (Int.tmod a0_1 16), .int .u8 (Int.tmod a0_2 16), .int .i16 a0_3, .int .i32 a0_4] 24 (0, 0)) (by first | exact BK407.out | exact blk_drewN BK407.out _) hb)
         have n1_ := am (blk_below (g := gb408) (o := .cells #[.int .u8 a1_0, .int .u8 (Int.tmod a1_1 16), .int .u8 (Int.tmod a1_2 16), .int .i16 a1_3, .int .i32 a1_4] 24 (0, 0)) (by first | exact BK408.out | exact blk_drewN BK408.out _) hb)
         have n2_ := am (blk_below (g := gb417) (o := .cells #[.int .u8 t411, .int .u8 t412, .int .u8 t413, .int .i16 t414, .int .i32 t415] 24 (0, 0)) (by first | exact BK417.out | exact blk_drewN BK417.out _) hb)
         have n3_ := am (blk_below (g := gb424) (o := .cells #[.int .u8 t418, .int .u8 t419, .int .u8 t420, .int .i16 t421, .int .i32 t422] 24 (0, 0)) (by first | exact BK424.out | exact blk_drewN BK424.out _) hb)
         have n4_ := am (below_step (by repeat (first | exact HB.out | apply pb | apply pa | apply pd | refine below_set ?_ GE407.out | refine below_set ?_ GE408.out | refine below_set ?_ GE417.out | refine below_set ?_ GE424.out)) hb)
         clear BK407
         clear BK408
         clear BK417
         clear BK424
         clear HB
         have BK407 := n0_
         have BK408 := n1_
         have BK417 := n2_
         have BK424 := n3_
         have HB := n4_
         clear n0_ n1_ n2_ n3_ n4_
         (try clear hb)
         (try clear hb2)
         (try clear hk)
         (try clear hi)
         refine hK.out _ _ ⟨(blk_cell BK417.out 0).trans rfl, (blk_cell BK417.out 1).trans rfl, (blk_cell BK417.out 2).trans rfl, (blk_cell BK417.out 3).trans rfl, (blk_cell BK417.out 4).trans rfl, (blk_cell BK407.out 0).trans rfl, (blk_cell BK407.out 1).trans rfl, (blk_cell BK407.out 2).trans rfl, (blk_cell BK407.out 3).trans rfl, (blk_cell BK407.out 4).trans rfl, (blk_cell BK408.out 0).trans rfl, (blk_cell BK408.out 1).trans rfl, (blk_cell BK408.out 2).trans rfl, (blk_cell BK408.out 3).trans rfl, (blk_cell BK408.out 4).trans rfl, (blk_cell BK424.out 0).trans rfl, (blk_cell BK424.out 1).trans rfl, (blk_cell BK424.out 2).trans rfl, (blk_cell BK424.out 3).trans rfl, (blk_cell BK424.out 4).trans rfl⟩ (fun hHeld => ?_)
         clear hK K
         refine norm_ (a' := ?_) ?_ ?_
         rotate_left
         ·show Act.put _ (some 51) _ = _
          simp only [Act.put, q1, q2, q3, i64_w, i32_w]
          rfl
         refine pure_ (i := 10) (N := some 52) (v := ?_) (a' := ?_) (ar 46 2047) rfl rfl (any_of HT_.out (by kernel_rfl)) (fun _ _ _ h => h) (Or.inl ⟨by rfl, ?_⟩) ?_ ?_
         rotate_left
         ·intro w'
          go_simp
          with_reducible rfl
         rotate_left
         ·simp only [Act.put, q1, q2, q3, i64_w, i32_w]
          rfl
         refine pure_ (i := 11) (N := some 53) (v := ?_) (a' := ?_) (ar 46 4095) rfl rfl (any_of HT_.out (by kernel_rfl)) (fun _ _ _ h => h) (Or.inl ⟨by rfl, ?_⟩) ?_ ?_
         rotate_left
         ·intro w'
          go_simp
          with_reducible rfl
         rotate_left
         ·simp only [Act.put, q1, q2, q3, i64_w, i32_w]
          rfl
         refine pure_ (i := 12) (N := some 54) (v := ?_) (a' := ?_) (ar 46 8191) rfl rfl (any_of HT_.out (by kernel_rfl)) (fun _ _ _ h => h) (Or.inl ⟨by rfl, ?_⟩) ?_ ?_
         rotate_left
         ·intro w'
          go_simp
          with_reducible rfl
         rotate_left
         ·simp only [Act.put, q1, q2, q3, i64_w, i32_w]
          rfl
         refine pure_ (i := 13) (N := some 55) (v := ?_) (a' := ?_) (ar 46 16383) rfl rfl (any_of HT_.out (by kernel_rfl)) (fun _ _ _ h => h) (Or.inl ⟨by rfl, ?_⟩) ?_ ?_
         rotate_left
         ·intro w'
          go_simp
          with_reducible rfl
         rotate_left
         ·simp only [Act.put, q1, q2, q3, i64_w, i32_w]
          rfl
         refine take_ (i := 14) (N := some 56) (v := ?_) (a' := ?_) (ar 46 32767) rfl rfl (take_ofW HT_.out HW_.out (by kernel_rfl)) (fun _ _ _ h => h) (Or.inl ⟨by rfl, ?_⟩) hHeld ?_ ?_
         rotate_left
         ·rintro w' ⟨s0, s1, s2, s3, s4, s5, s6, s7, s8, s9, s10, s11, s12, s13, s14, s15, s16, s17, s18, s19⟩
          go_simp
          with_reducible rfl
         rotate_left
         ·simp only [Act.put, q1, q2, q3, i64_w, i32_w]
          rfl
         refine take_ (i := 16) (N := some 58) (v := ?_) (a' := ?_) (ar 46 98303) rfl rfl (take_ofW HT_.out HW_.out (by kernel_rfl)) (fun _ _ _ h => h) (Or.inl ⟨by rfl, ?_⟩) hHeld ?_ ?_
         rotate_left
         ·rintro w' ⟨s0, s1, s2, s3, s4, s5, s6, s7, s8, s9, s10, s11, s12, s13, s14, s15, s16, s17, s18, s19⟩
          go_simp
          with_reducible rfl
         rotate_left
         ·simp only [Act.put, q1, q2, q3, i64_w, i32_w]
          rfl
         refine take_ (i := 19) (N := some 61) (v := ?_) (a' := ?_) (ar 46 622591) rfl rfl (take_ofW HT_.out HW_.out (by kernel_rfl)) (fun _ _ _ h => h) (Or.inl ⟨by rfl, ?_⟩) hHeld ?_ ?_
         rotate_left
         ·rintro w' ⟨s0, s1, s2, s3, s4, s5, s6, s7, s8, s9, s10, s11, s12, s13, s14, s15, s16, s17, s18, s19⟩
          go_simp
          with_reducible rfl
         rotate_left
         ·simp only [Act.put, q1, q2, q3, i64_w, i32_w]
          rfl
         refine take_ (i := 20) (N := some 62) (v := ?_) (a' := ?_) (ar 46 1671167) rfl rfl (take_ofW HT_.out HW_.out (by kernel_rfl)) (fun _ _ _ h => h) (Or.inl ⟨by rfl, ?_⟩) hHeld ?_ ?_
         rotate_left
         ·rintro w' ⟨s0, s1, s2, s3, s4, s5, s6, s7, s8, s9, s10, s11, s12, s13, s14, s15, s16, s17, s18, s19⟩
          go_simp
          with_reducible rfl
         rotate_left
         ·simp only [Act.put, q1, q2, q3, i64_w, i32_w]
          rfl
         refine pure_ (i := 21) (N := some 63) (v := ?_) (a' := ?_) (ar 46 3768319) rfl rfl (any_of HT_.out (by kernel_rfl)) (fun _ _ _ h => h) (Or.inl ⟨by rfl, ?_⟩) ?_ ?_
         rotate_left
         ·intro w'
          go_simp
          with_reducible rfl
         rotate_left
         ·simp only [Act.put, q1, q2, q3, i64_w, i32_w]
          rfl
         refine one_ (i := 15) (N := some 57) (ar 46 3801087) rfl rfl (one_of HT_.out (by kernel_rfl)) (by decide) (fun K hK => ?_)
         refine goes_ Try.func17 (by kernel_rfl) rfl #[.agg #[.int .u8 a0_0, .int .u8 (Int.tmod a0_1 16), .int .u8 (Int.tmod a0_2 16), .int .i16 a0_3, .int .i32 a0_4]] (by rfl) rfl rfl (by (try simp only [List.map_toArray, List.map_cons, List.map_nil]); first | done | rfl) ?_
         with_reducible refine (insn_Encode.calls k a0_0 (Int.tmod a0_1 16) (Int.tmod a0_2 16) a0_3 a0_4 t426 _ A16.out).mono ?_
         rintro e w44 ⟨rfl, hb⟩
         refine ⟨_, rfl, ?_⟩
         have n0_ := am (blk_below (g := gb407) (o := .cells #[.int .u8 a0_0, .int .u8 (Int.tmod a0_1 16), .int .u8 (Int.tmod a0_2 16), .int .i16 a0_3, .int .i32 a0_4] 24 (0, 0)) (by first | exact BK407.out | exact blk_drewN BK407.out _) hb)
         have n1_ := am (blk_below (g := gb408) (o := .cells #[.int .u8 a1_0, .int .u8 (Int.tmod a1_1 16), .int .u8 (Int.tmod a1_2 16), .int .i16 a1_3, .int .i32 a1_4] 24 (0, 0)) (by first | exact BK408.out | exact blk_drewN BK408.out _) hb)
         have n2_ := am (blk_below (g := gb417) (o := .cells #[.int .u8 t411, .int .u8 t412, .int .u8 t413, .int .i16 t414, .int .i32 t415] 24 (0, 0)) (by first | exact BK417.out | exact blk_drewN BK417.out _) hb)
         have n3_ := am (blk_below (g := gb424) (o := .cells #[.int .u8 t418, .int .u8 t419, .int .u8 t420, .int .i16 t421, .int .i32 t422] 24 (0, 0)) (by first | exact BK424.out | exact blk_drewN BK424.out _) hb)
         have n4_ := am (below_step (by repeat (first | exact HB.out | apply pb | apply pa | apply pd | refine below_set ?_ GE407.out | refine below_set ?_ GE408.out | refine below_set ?_ GE417.out | refine below_set ?_ GE424.out)) hb)
         clear BK407
         clear BK408
         clear BK417
         clear BK424
         clear HB
         have BK407 := n0_
         have BK408 := n1_
         have BK417 := n2_
         have BK424 := n3_
         have HB := n4_
         clear n0_ n1_ n2_ n3_ n4_
         (try clear hb)
         (try clear hb2)
         (try clear hk)
         (try clear hi)
         refine hK.out _ _ ⟨(blk_cell BK417.out 0).trans rfl, (blk_cell BK417.out 1).trans rfl, (blk_cell BK417.out 2).trans rfl, (blk_cell BK417.out 3).trans rfl, (blk_cell BK417.out 4).trans rfl, (blk_cell BK407.out 0).trans rfl, (blk_cell BK407.out 1).trans rfl, (blk_cell BK407.out 2).trans rfl, (blk_cell BK407.out 3).trans rfl, (blk_cell BK407.out 4).trans rfl, (blk_cell BK408.out 0).trans rfl, (blk_cell BK408.out 1).trans rfl, (blk_cell BK408.out 2).trans rfl, (blk_cell BK408.out 3).trans rfl, (blk_cell BK408.out 4).trans rfl, (blk_cell BK424.out 0).trans rfl, (blk_cell BK424.out 1).trans rfl, (blk_cell BK424.out 2).trans rfl, (blk_cell BK424.out 3).trans rfl, (blk_cell BK424.out 4).trans rfl⟩ (fun hHeld => ?_)
         clear hK K
         refine norm_ (a' := ?_) ?_ ?_
         rotate_left
         ·show Act.put _ (some 57) _ = _
          simp only [Act.put, q1, q2, q3, i64_w, i32_w]
          rfl
         refine one_ (i := 17) (N := some 59) (ar 46 3932159) rfl rfl (one_of HT_.out (by kernel_rfl)) (by decide) (fun K hK => ?_)
         refine goes_ Try.func17 (by kernel_rfl) rfl #[.agg #[.int .u8 a1_0, .int .u8 (Int.tmod a1_1 16), .int .u8 (Int.tmod a1_2 16), .int .i16 a1_3, .int .i32 a1_4]] (by rfl) rfl rfl (by (try simp only [List.map_toArray, List.map_cons, List.map_nil]); first | done | rfl) ?_
         with_reducible refine (insn_Encode.calls k a1_0 (Int.tmod a1_1 16) (Int.tmod a1_2 16) a1_3 a1_4 t427 _ A17.out).mono ?_
         rintro e w45 ⟨rfl, hb⟩
         refine ⟨_, rfl, ?_⟩
         have n0_ := am (blk_below (g := gb407) (o := .cells #[.int .u8 a0_0, .int .u8 (Int.tmod a0_1 16), .int .u8 (Int.tmod a0_2 16), .int .i16 a0_3, .int .i32 a0_4] 24 (0, 0)) (by first | exact BK407.out | exact blk_drewN BK407.out _) hb)
         have n1_ := am (blk_below (g := gb408) (o := .cells #[.int .u8 a1_0, .int .u8 (Int.tmod a1_1 16), .int .u8 (Int.tmod a1_2 16), .int .i16 a1_3, .int .i32 a1_4] 24 (0, 0)) (by first | exact BK408.out | exact blk_drewN BK408.out _) hb)
         have n2_ := am (blk_below (g := gb417) (o := .cells #[.int .u8 t411, .int .u8 t412, .int .u8 t413, .int .i16 t414, .int .i32 t415] 24 (0, 0)) (by first | exact BK417.out | exact blk_drewN BK417.out _) hb)
         have n3_ := am (blk_below (g := gb424) (o := .cells #[.int .u8 t418, .int .u8 t419, .int .u8 t420, .int .i16 t421, .int .i32 t422] 24 (0, 0)) (by first | exact BK424.out | exact blk_drewN BK424.out _) hb)
         have n4_ := am (below_step (by repeat (first | exact HB.out | apply pb | apply pa | apply pd | refine below_set ?_ GE407.out | refine below_set ?_ GE408.out | refine below_set ?_ GE417.out | refine below_set ?_ GE424.out)) hb)
         clear BK407
         clear BK408
         clear BK417
         clear BK424
         clear HB
         have BK407 := n0_
         have BK408 := n1_
         have BK417 := n2_
         have BK424 := n3_
         have HB := n4_
         clear n0_ n1_ n2_ n3_ n4_
         (try clear hb)
         (try clear hb2)
         (try clear hk)
         (try clear hi)
         refine hK.out _ _ ⟨(blk_cell BK417.out 0).trans rfl, (blk_cell BK417.out 1).trans rfl, (blk_cell BK417.out 2).trans rfl, (blk_cell BK417.out 3).trans rfl, (blk_cell BK417.out 4).trans rfl, (blk_cell BK407.out 0).trans rfl, (blk_cell BK407.out 1).trans rfl, (blk_cell BK407.out 2).trans rfl, (blk_cell BK407.out 3).trans rfl, (blk_cell BK407.out 4).trans rfl, (blk_cell BK408.out 0).trans rfl, (blk_cell BK408.out 1).trans rfl, (blk_cell BK408.out 2).trans rfl, (blk_cell BK408.out 3).trans rfl, (blk_cell BK408.out 4).trans rfl, (blk_cell BK424.out 0).trans rfl, (blk_cell BK424.out 1).trans rfl, (blk_cell BK424.out 2).trans rfl, (blk_cell BK424.out 3).trans rfl, (blk_cell BK424.out 4).trans rfl⟩ (fun hHeld => ?_)
         clear hK K
         refine norm_ (a' := ?_) ?_ ?_
         rotate_left
         ·show Act.put _ (some 59) _ = _
          simp only [Act.put, q1, q2, q3, i64_w, i32_w]
          rfl
         refine pure_ (i := 18) (N := some 60) (v := ?_) (a' := ?_) (ar 46 4194303) rfl rfl (any_of HT_.out (by kernel_rfl)) (fun _ _ _ h => h) (Or.inl ⟨by rfl, ?_⟩) ?_ ?_
         rotate_left
         ·intro w'
          go_simp
          with_reducible rfl
         rotate_left
         ·simp only [Act.put, q1, q2, q3, i64_w, i32_w]
          rfl
         refine pure_ (i := 22) (N := some 64) (v := ?_) (a' := ?_) (ar 46 8388607) rfl rfl (any_of HT_.out (by kernel_rfl)) (fun _ _ _ h => h) (Or.inl ⟨by rfl, ?_⟩) ?_ ?_
         rotate_left
         ·intro w'
          go_simp
          with_reducible rfl
         rotate_left
         ·simp only [Act.put, q1, q2, q3, i64_w, i32_w]
          rfl
         refine pure_ (i := 23) (N := some 65) (v := ?_) (a' := ?_) (ar 46 16777215) rfl rfl (any_of HT_.out (by kernel_rfl)) (fun _ _ _ h => h) (Or.inl ⟨by rfl, ?_⟩) ?_ ?_
         rotate_left
         ·intro w'
          go_simp
          with_reducible rfl
         rotate_left
         ·simp only [Act.put, q1, q2, q3, i64_w, i32_w]
          rfl
         refine pure_ (i := 24) (N := some 66) (v := ?_) (a' := ?_) (ar 46 33554431) rfl rfl (any_of HT_.out (by kernel_rfl)) (fun _ _ _ h => h) (Or.inl ⟨by rfl, ?_⟩) ?_ ?_
         rotate_left
         ·intro w'
          go_simp
          with_reducible rfl
         rotate_left
         ·simp only [Act.put, q1, q2, q3, i64_w, i32_w]
          rfl
         refine pure_ (i := 25) (N := some 67) (v := ?_) (a' := ?_) (ar 46 67108863) rfl rfl (any_of HT_.out (by kernel_rfl)) (fun _ _ _ h => h) (Or.inl ⟨by rfl, ?_⟩) ?_ ?_
         rotate_left
         ·intro w'
          go_simp
          with_reducible rfl
         rotate_left
         ·simp only [Act.put, q1, q2, q3, i64_w, i32_w]
          rfl
         refine pure_ (i := 26) (N := some 68) (v := ?_) (a' := ?_) (ar 46 134217727) rfl rfl (any_of HT_.out (by kernel_rfl)) (fun _ _ _ h => h) (Or.inl ⟨by rfl, ?_⟩) ?_ ?_
         rotate_left
         ·intro w'
          go_simp
          with_reducible rfl
         rotate_left
         ·simp only [Act.put, q1, q2, q3, i64_w, i32_w]
          rfl
         refine pure_ (i := 27) (N := some 69) (v := ?_) (a' := ?_) (ar 46 268435455) rfl rfl (any_of HT_.out (by kernel_rfl)) (fun _ _ _ h => h) (Or.inl ⟨by rfl, ?_⟩) ?_ ?_
         rotate_left
         ·intro w'
          go_simp
          with_reducible rfl
         rotate_left
         ·simp only [Act.put, q1, q2, q3, i64_w, i32_w]
          rfl
         refine pure_ (i := 30) (N := some 72) (v := ?_) (a' := ?_) (ar 46 1342177279) rfl rfl (any_of HT_.out (by kernel_rfl)) (fun _ _ _ h => h) (Or.inl ⟨by rfl, ?_⟩) ?_ ?_
         rotate_left
         ·intro w'
          go_simp
          with_reducible rfl
         rotate_left
         ·simp only [Act.put, q1, q2, q3, i64_w, i32_w]
          rfl
         refine take_ (i := 28) (N := some 70) (v := ?_) (a' := ?_) (ar 46 1610612735) rfl rfl (take_ofW HT_.out HW_.out (by kernel_rfl)) (fun _ _ _ h => h) (Or.inl ⟨by rfl, ?_⟩) hHeld ?_ ?_
         rotate_left
         ·rintro w' ⟨s0, s1, s2, s3, s4, s5, s6, s7, s8, s9, s10, s11, s12, s13, s14, s15, s16, s17, s18, s19⟩
          go_simp
          with_reducible rfl
         rotate_left
         ·simp only [Act.put, q1, q2, q3, i64_w, i32_w]
          rfl
         refine one_ (i := 29) (N := some 71) (ar 46 2147483647) rfl rfl (one_of HT_.out (by kernel_rfl)) (by decide) (fun K hK => ?_)
         refine goes_ Try.func17 (by kernel_rfl) rfl #[.agg #[.int .u8 t418, .int .u8 t419, .int .u8 t420, .int .i16 t421, .int .i32 t422]] (by rfl) rfl rfl (by (try simp only [List.map_toArray, List.map_cons, List.map_nil]); first | done | rfl) ?_
         with_reducible refine (insn_Encode.calls k t418 t419 t420 t421 t422 t428 _ A20.out).mono ?_
         rintro e w46 ⟨rfl, hb⟩
         refine ⟨_, rfl, ?_⟩
         have n0_ := am (blk_below (g := gb407) (o := .cells #[.int .u8 a0_0, .int .u8 (Int.tmod a0_1 16), .int .u8 (Int.tmod a0_2 16), .int .i16 a0_3, .int .i32 a0_4] 24 (0, 0)) (by first | exact BK407.out | exact blk_drewN BK407.out _) hb)
         have n1_ := am (blk_below (g := gb408) (o := .cells #[.int .u8 a1_0, .int .u8 (Int.tmod a1_1 16), .int .u8 (Int.tmod a1_2 16), .int .i16 a1_3, .int .i32 a1_4] 24 (0, 0)) (by first | exact BK408.out | exact blk_drewN BK408.out _) hb)
         have n2_ := am (blk_below (g := gb417) (o := .cells #[.int .u8 t411, .int .u8 t412, .int .u8 t413, .int .i16 t414, .int .i32 t415] 24 (0, 0)) (by first | exact BK417.out | exact blk_drewN BK417.out _) hb)
         have n3_ := am (blk_below (g := gb424) (o := .cells #[.int .u8 t418, .int .u8 t419, .int .u8 t420, .int .i16 t421, .int .i32 t422] 24 (0, 0)) (by first | exact BK424.out | exact blk_drewN BK424.out _) hb)
         have n4_ := am (below_step (by repeat (first | exact HB.out | apply pb | apply pa | apply pd | refine below_set ?_ GE407.out | refine below_set ?_ GE408.out | refine below_set ?_ GE417.out | refine below_set ?_ GE424.out)) hb)
         clear BK407
         clear BK408
         clear BK417
         clear BK424
         clear HB
         have BK407 := n0_
         have BK408 := n1_
         have BK417 := n2_
         have BK424 := n3_
         have HB := n4_
         clear n0_ n1_ n2_ n3_ n4_
         (try clear hb)
         (try clear hb2)
         (try clear hk)
         (try clear hi)
         refine hK.out _ _ ⟨(blk_cell BK417.out 0).trans rfl, (blk_cell BK417.out 1).trans rfl, (blk_cell BK417.out 2).trans rfl, (blk_cell BK417.out 3).trans rfl, (blk_cell BK417.out 4).trans rfl, (blk_cell BK407.out 0).trans rfl, (blk_cell BK407.out 1).trans rfl, (blk_cell BK407.out 2).trans rfl, (blk_cell BK407.out 3).trans rfl, (blk_cell BK407.out 4).trans rfl, (blk_cell BK408.out 0).trans rfl, (blk_cell BK408.out 1).trans rfl, (blk_cell BK408.out 2).trans rfl, (blk_cell BK408.out 3).trans rfl, (blk_cell BK408.out 4).trans rfl, (blk_cell BK424.out 0).trans rfl, (blk_cell BK424.out 1).trans rfl, (blk_cell BK424.out 2).trans rfl, (blk_cell BK424.out 3).trans rfl, (blk_cell BK424.out 4).trans rfl⟩ (fun hHeld => ?_)
         clear hK K
         refine norm_ (a' := ?_) ?_ ?_
         rotate_left
         ·show Act.put _ (some 71) _ = _
          simp only [Act.put, q1, q2, q3, i64_w, i32_w]
          rfl
         refine pure_ (i := 31) (N := some 73) (v := ?_) (a' := ?_) (ar 46 4294967295) rfl rfl (any_of HT_.out (by kernel_rfl)) (fun _ _ _ h => h) (Or.inl ⟨by rfl, ?_⟩) ?_ ?_
         rotate_left
         ·intro w'
          go_simp
          with_reducible rfl
         rotate_left
         ·simp only [Act.put, q1, q2, q3, i64_w, i32_w]
          rfl
         refine pure_ (i := 32) (N := some 74) (v := ?_) (a' := ?_) (ar 46 8589934591) rfl rfl (any_of HT_.out (by kernel_rfl)) (fun _ _ _ h => h) (Or.inl ⟨by rfl, ?_⟩) ?_ ?_
         rotate_left
         ·intro w'
          go_simp
          with_reducible rfl
         rotate_left
         ·simp only [Act.put, q1, q2, q3, i64_w, i32_w]
          rfl
         refine pure_ (i := 33) (N := some 75) (v := ?_) (a' := ?_) (ar 46 17179869183) rfl rfl (any_of HT_.out (by kernel_rfl)) (fun _ _ _ h => h) (Or.inl ⟨by rfl, ?_⟩) ?_ ?_
         rotate_left
         ·intro w'
          go_simp
          with_reducible rfl
         rotate_left
         ·simp only [Act.put, q1, q2, q3, i64_w, i32_w]
          rfl
         refine pure_ (i := 34) (N := some 76) (v := ?_) (a' := ?_) (ar 46 34359738367) rfl rfl (any_of HT_.out (by kernel_rfl)) (fun _ _ _ h => h) (Or.inl ⟨by rfl, ?_⟩) ?_ ?_
         rotate_left
         ·intro w'
          go_simp
          with_reducible rfl
         rotate_left
         ·simp only [Act.put, q1, q2, q3, i64_w, i32_w]
          rfl
         refine pure_ (i := 35) (N := some 77) (v := ?_) (a' := ?_) (ar 46 68719476735) rfl rfl (any_of HT_.out (by kernel_rfl)) (fun _ _ _ h => h) (Or.inl ⟨by rfl, ?_⟩) ?_ ?_
         rotate_left
         ·intro w'
          go_simp
          with_reducible rfl
         rotate_left
         ·simp only [Act.put, q1, q2, q3, i64_w, i32_w]
          rfl
         refine pure_ (i := 36) (N := some 78) (v := ?_) (a' := ?_) (ar 46 137438953471) rfl rfl (any_of HT_.out (by kernel_rfl)) (fun _ _ _ h => h) (Or.inl ⟨by rfl, ?_⟩) ?_ ?_
         rotate_left
         ·intro w'
          go_simp
          with_reducible rfl
         rotate_left
         ·simp only [Act.put, q1, q2, q3, i64_w, i32_w]
          rfl
         refine pure_ (i := 37) (N := some 79) (v := ?_) (a' := ?_) (ar 46 274877906943) rfl rfl (any_of HT_.out (by kernel_rfl)) (fun _ _ _ h => h) (Or.inl ⟨by rfl, ?_⟩) ?_ ?_
         rotate_left
         ·intro w'
          go_simp
          with_reducible rfl
         rotate_left
         ·simp only [Act.put, q1, q2, q3, i64_w, i32_w]
          rfl
         refine pure_ (i := 38) (N := some 80) (v := ?_) (a' := ?_) (ar 46 549755813887) rfl rfl (any_of HT_.out (by kernel_rfl)) (fun _ _ _ h => h) (Or.inl ⟨by rfl, ?_⟩) ?_ ?_
         rotate_left
         ·intro w'
          go_simp
          with_reducible rfl
         rotate_left
         ·simp only [Act.put, q1, q2, q3, i64_w, i32_w]
          rfl
         refine pure_ (i := 39) (N := some 81) (v := ?_) (a' := ?_) (ar 46 1099511627775) rfl rfl (any_of HT_.out (by kernel_rfl)) (fun _ _ _ h => h) (Or.inl ⟨by rfl, ?_⟩) ?_ ?_
         rotate_left
         ·intro w'
          go_simp
          with_reducible rfl
         rotate_left
         ·simp only [Act.put, q1, q2, q3, i64_w, i32_w]
          rfl
         refine pure_ (i := 40) (N := some 82) (v := ?_) (a' := ?_) (ar 46 2199023255551) rfl rfl (any_of HT_.out (by kernel_rfl)) (fun _ _ _ h => h) (Or.inl ⟨by rfl, ?_⟩) ?_ ?_
         rotate_left
         ·intro w'
          go_simp
          with_reducible rfl
         rotate_left
         ·simp only [Act.put, q1, q2, q3, i64_w, i32_w]
          rfl
         refine pure_ (i := 41) (N := some 83) (v := ?_) (a' := ?_) (ar 46 4398046511103) rfl rfl (any_of HT_.out (by kernel_rfl)) (fun _ _ _ h => h) (Or.inl ⟨by rfl, ?_⟩) ?_ ?_
         rotate_left
         ·intro w'
          go_simp
          with_reducible rfl
         rotate_left
         ·simp only [Act.put, q1, q2, q3, i64_w, i32_w]
          rfl
         refine pure_ (i := 42) (N := some 84) (v := ?_) (a' := ?_) (ar 46 8796093022207) rfl rfl (any_of HT_.out (by kernel_rfl)) (fun _ _ _ h => h) (Or.inl ⟨by rfl, ?_⟩) ?_ ?_
         rotate_left
         ·intro w'
          go_simp
          with_reducible rfl
         rotate_left
         ·simp only [Act.put, q1, q2, q3, i64_w, i32_w]
          rfl
         refine one_ (i := 43) (N := some 85) (ar 46 17592186044415) rfl rfl (one_of HT_.out (by kernel_rfl)) (by decide) (fun K hK => ?_)
         refine goes_ Try.func14 (by kernel_rfl) rfl #[] (by rfl) rfl rfl (by (try simp only [List.map_toArray, List.map_cons, List.map_nil]); first | done | rfl) ?_
         with_reducible refine (wardenlaw07_alive.calls k t429 _ hr_ A23.out).mono ?_
         rintro e w47 ⟨rfl, hb⟩
         refine ⟨_, rfl, ?_⟩
         have n0_ := am (blk_below (g := gb407) (o := .cells #[.int .u8 a0_0, .int .u8 (Int.tmod a0_1 16), .int .u8 (Int.tmod a0_2 16), .int .i16 a0_3, .int .i32 a0_4] 24 (0, 0)) (by first | exact BK407.out | exact blk_drewN BK407.out _) hb)
         have n1_ := am (blk_below (g := gb408) (o := .cells #[.int .u8 a1_0, .int .u8 (Int.tmod a1_1 16), .int .u8 (Int.tmod a1_2 16), .int .i16 a1_3, .int .i32 a1_4] 24 (0, 0)) (by first | exact BK408.out | exact blk_drewN BK408.out _) hb)
         have n2_ := am (blk_below (g := gb417) (o := .cells #[.int .u8 t411, .int .u8 t412, .int .u8 t413, .int .i16 t414, .int .i32 t415] 24 (0, 0)) (by first | exact BK417.out | exact blk_drewN BK417.out _) hb)
         have n3_ := am (blk_below (g := gb424) (o := .cells #[.int .u8 t418, .int .u8 t419, .int .u8 t420, .int .i16 t421, .int .i32 t422] 24 (0, 0)) (by first | exact BK424.out | exact blk_drewN BK424.out _) hb)
         have n4_ := am (below_step (by repeat (first | exact HB.out | apply pb | apply pa | apply pd | refine below_set ?_ GE407.out | refine below_set ?_ GE408.out | refine below_set ?_ GE417.out | refine below_set ?_ GE424.out)) hb)
         clear BK407
         clear BK408
         clear BK417
         clear BK424
         clear HB
         have BK407 := n0_
         have BK408 := n1_
         have BK417 := n2_
         have BK424 := n3_
         have HB := n4_
         clear n0_ n1_ n2_ n3_ n4_
         (try clear hb)
         (try clear hb2)
         (try clear hk)
         (try clear hi)
         refine hK.out _ _ ⟨(blk_cell BK417.out 0).trans rfl, (blk_cell BK417.out 1).trans rfl, (blk_cell BK417.out 2).trans rfl, (blk_cell BK417.out 3).trans rfl, (blk_cell BK417.out 4).trans rfl, (blk_cell BK407.out 0).trans rfl, (blk_cell BK407.out 1).trans rfl, (blk_cell BK407.out 2).trans rfl, (blk_cell BK407.out 3).trans rfl, (blk_cell BK407.out 4).trans rfl, (blk_cell BK408.out 0).trans rfl, (blk_cell BK408.out 1).trans rfl, (blk_cell BK408.out 2).trans rfl, (blk_cell BK408.out 3).trans rfl, (blk_cell BK408.out 4).trans rfl, (blk_cell BK424.out 0).trans rfl, (blk_cell BK424.out 1).trans rfl, (blk_cell BK424.out 2).trans rfl, (blk_cell BK424.out 3).trans rfl, (blk_cell BK424.out 4).trans rfl⟩ (fun hHeld => ?_)
         clear hK K
         refine norm_ (a' := ?_) ?_ ?_
         rotate_left
         ·show Act.put _ (some 85) _ = _
          simp only [Act.put, q1, q2, q3, i64_w, i32_w]
          rfl
         refine pure_ (i := 44) (N := some 86) (v := ?_) (a' := ?_) (ar 46 35184372088831) rfl rfl (any_of HT_.out (by kernel_rfl)) (fun _ _ _ h => h) (Or.inl ⟨by rfl, ?_⟩) ?_ ?_
         rotate_left
         ·intro w'
          go_simp
          with_reducible rfl
         rotate_left
         ·simp only [Act.put, q1, q2, q3, i64_w, i32_w]
          rfl
         refine pure_ (i := 45) (N := some 6) (v := ?_) (a' := ?_) (ar 46 70368744177663) rfl rfl (any_of HT_.out (by kernel_rfl)) (fun _ _ _ h => h) (Or.inl ⟨by rfl, ?_⟩) ?_ ?_
         rotate_left
         ·intro w'
          go_simp
          with_reducible rfl
         rotate_left
         ·simp only [Act.put, q1, q2, q3, i64_w, i32_w]
          rfl
         refine done_ (done_of HT_.out (by kernel_rfl)) ?_
         try go_wp2
         go_ret
         exact ⟨by first | rfl | (simp [errW_none, errW_some] <;> rfl) | (simp [*, errW_none, errW_some] <;> rfl), by repeat (first | (with_reducible first | exact HB.out | apply below_alloc | apply pw_below_drewN | apply below_drew1 | refine below_set ?_ GE407.out | refine below_set ?_ GE408.out | refine below_set ?_ GE417.out | refine below_set ?_ GE424.out) | exact HB.out)⟩
        ·rw [if_neg c22] at H
         have c22b0 : ((t423 == 0) == ((a2.size : Int) == 8)) = false := by simpa using c22
         (try (have c22b1 : decide ((t423 == 0) = ((a2.size : Int) == 8)) = false := by simpa using c22))
         (try (have c22b2 : ((t423 == 0) == ((a2.size : Int) == 8)) = false := by simpa using c22))
         (try (have c22b3 : ¬ ((t423 == 0) = ((a2.size : Int) == 8)) := by simpa using c22))
         clear c22
         exact absurd ((Option.some.inj H).trans hr_.out) (by decide)
       ·rw [if_neg c21] at H
        have c21b0 : (t428.toList == a2.toList) = false := beq_eq_false_iff_ne.mpr c21
        have c21b1 : (t428.toList != a2.toList) = true := bne_iff_ne.mpr c21
        exact absurd ((Option.some.inj H).trans hr_.out) (by decide)
      ·rw [if_neg c19] at H
       have c19b0 : (t423 == 0) = false := beq_eq_false_iff_ne.mpr c19
       have c19b1 : (t423 != 0) = true := bne_iff_ne.mpr c19
       by_cases c94 : ((t423 == 0) == ((a2.size : Int) == 8)) = true
       ·rw [if_pos c94] at H
        have c94b0 : ((t423 == 0) == ((a2.size : Int) == 8)) = true := c94
        (try (have c94b1 : decide ((t423 == 0) = ((a2.size : Int) == 8)) = true := by simpa using c94))
        (try (have c94b2 : ((t423 == 0) == ((a2.size : Int) == 8)) = true := by simpa using c94))
        have c94z : ((a2.size : Int) == 8) = false := by rw [c19b0] at c94b0; simpa using c94b0
        clear c94
        replace H := Option.bind_eq_some_iff.mp H
        obtain ⟨t430, A950, H⟩ := H
        try dsimp only at H
        have A95 := am A950
        clear A950
        obtain rfl := Option.some.inj H
        go_enter Try.func5, Try.ntmps5
        try go_wp2_with (first | ((with_reducible refine gate_dst (N := 3) rfl ?_); (try (refine gate_guard (by rfl) ?_; dsimp only)); refine box_event ?hg (N := 3) ?hd (cs := #[.int .u8 a0_0, .int .u8 a0_1, .int .u8 a0_2, .int .i16 a0_3, .int .i32 a0_4]) (t := 24) ?hr ?_; (case hd => rfl); (case hg => rfl); (case hr => first | (go_simp; done) | (go_simp; rfl)); intro gb407 hg w96 hbox hb; have n0_ := am (below_step (by repeat (first | exact HB.out | apply pb | apply pa | apply pd)) hb); have n1_ := am (hbox); have n2_ := am ((by rw [hg]; exact (below_size (by repeat (first | exact HB.out | apply pb | apply pa | apply pd))) : w.heap.size ≤ gb407)); have n3_ := am ((by rw [hg]; exact (below_size (by repeat (first | exact HB.out | apply pb | apply pa | apply pd))) : w.heap.size ≤ gb407)); clear HB; have HB := n0_; have BK407 := n1_; have GW407 := n2_; have GE407 := n3_; clear n0_ n1_ n2_ n3_; clear hb hbox hg) | ((with_reducible refine gate_dst (N := 4) rfl ?_); (try (refine gate_guard (by rfl) ?_; dsimp only)); refine box_event ?hg (N := 4) ?hd (cs := #[.int .u8 a1_0, .int .u8 a1_1, .int .u8 a1_2, .int .i16 a1_3, .int .i32 a1_4]) (t := 24) ?hr ?_; (case hd => rfl); (case hg => rfl); (case hr => first | (go_simp; done) | (go_simp; rfl)); intro gb408 hg w97 hbox hb; have n0_ := am (blk_below (g := gb407) (o := .cells #[.int .u8 a0_0, .int .u8 a0_1, .int .u8 a0_2, .int .i16 a0_3, .int .i32 a0_4] 24 (0, 0)) (by first | exact BK407.out | exact blk_drewN BK407.out _) hb); have n1_ := am (below_step (by repeat (first | exact HB.out | apply pb | apply pa | apply pd | refine below_set ?_ GE407.out)) hb); have n2_ := am (hbox); have n3_ := am ((by rw [hg]; exact (below_size (by repeat (first | exact HB.out | apply pb | apply pa | apply pd | refine below_set ?_ GE407.out))) : w.heap.size ≤ gb408)); have n4_ := am ((by rw [hg]; exact (below_size (by repeat (first | exact HB.out | apply pb | apply pa | apply pd | refine below_set ?_ GE407.out))) : w.heap.size ≤ gb408)); have n5_ := am ((by rw [hg]; exact Nat.ne_of_lt (blk_lt (g := gb407) (o := .cells #[.int .u8 a0_0, .int .u8 a0_1, .int .u8 a0_2, .int .i16 a0_3, .int .i32 a0_4] 24 (0, 0)) (by first | exact BK407.out | exact blk_drewN BK407.out _)) : gb407 ≠ gb408)); have n6_ := am ((by rw [hg]; exact Nat.ne_of_gt (blk_lt (g := gb407) (o := .cells #[.int .u8 a0_0, .int .u8 a0_1, .int .u8 a0_2, .int .i16 a0_3, .int .i32 a0_4] 24 (0, 0)) (by first | exact BK407.out | exact blk_drewN BK407.out _)) : gb408 ≠ gb407)); clear BK407; clear HB; have BK407 := n0_; have HB := n1_; have BK408 := n2_; have GW408 := n3_; have GE408 := n4_; have NB407_408 := n5_; have NB408_407 := n6_; clear n0_ n1_ n2_ n3_ n4_ n5_ n6_; clear hb hbox hg; have hnb98 := NB407_408.out; have hnc98 := NB408_407.out; have hcz99_0 : w97.cell? ⟨gb407, 0, none⟩ = some (.int .u8 a0_0) := (blk_cell BK407.out 0).trans rfl; have hcz99_1 : w97.cell? ⟨gb407, 1, none⟩ = some (.int .u8 a0_1) := (blk_cell BK407.out 1).trans rfl; have hcz99_2 : w97.cell? ⟨gb407, 2, none⟩ = some (.int .u8 a0_2) := (blk_cell BK407.out 2).trans rfl; have hcz99_3 : w97.cell? ⟨gb407, 3, none⟩ = some (.int .i16 a0_3) := (blk_cell BK407.out 3).trans rfl; have hcz99_4 : w97.cell? ⟨gb407, 4, none⟩ = some (.int .i32 a0_4) := (blk_cell BK407.out 4).trans rfl; have hfz99_0 := blk_frozen BK407.out 0; have hfz99_1 := blk_frozen BK407.out 1; have hfz99_2 := blk_frozen BK407.out 2; have hfz99_3 := blk_frozen BK407.out 3; have hfz99_4 := blk_frozen BK407.out 4; have hcz100_0 : w97.cell? ⟨gb408, 0, none⟩ = some (.int .u8 a1_0) := (blk_cell BK408.out 0).trans rfl; have hcz100_1 : w97.cell? ⟨gb408, 1, none⟩ = some (.int .u8 a1_1) := (blk_cell BK408.out 1).trans rfl; have hcz100_2 : w97.cell? ⟨gb408, 2, none⟩ = some (.int .u8 a1_2) := (blk_cell BK408.out 2).trans rfl; have hcz100_3 : w97.cell? ⟨gb408, 3, none⟩ = some (.int .i16 a1_3) := (blk_cell BK408.out 3).trans rfl; have hcz100_4 : w97.cell? ⟨gb408, 4, none⟩ = some (.int .i32 a1_4) := (blk_cell BK408.out 4).trans rfl; have hfz100_0 := blk_frozen BK408.out 0; have hfz100_1 := blk_frozen BK408.out 1; have hfz100_2 := blk_frozen BK408.out 2; have hfz100_3 := blk_frozen BK408.out 3; have hfz100_4 := blk_frozen BK408.out 4) | ((with_reducible refine gate_callee (f := 17) rfl ?_); refine goesL_ (some 33) rfl rfl Try.func17 (by kernel_rfl) rfl #[.agg #[.int .u8 a0_0, .int .u8 (Int.tmod a0_1 16), .int .u8 (Int.tmod a0_2 16), .int .i16 a0_3, .int .i32 a0_4]] rfl (by (try simp only [List.map_toArray, List.map_cons, List.map_nil]); first | done | rfl) ?_; (with_reducible refine (insn_Encode.calls k a0_0 (Int.tmod a0_1 16) (Int.tmod a0_2 16) a0_3 a0_4 t410 _ A9.out).mono ?_); rintro e w101 ⟨rfl, hb⟩; refine ⟨_, rfl, ?_⟩; have n0_ := am (blk_below (g := gb407) (o := .cells #[.int .u8 a0_0, .int .u8 (Int.tmod a0_1 16), .int .u8 (Int.tmod a0_2 16), .int .i16 a0_3, .int .i32 a0_4] 24 (0, 0)) (by (with_reducible repeat (first | refine blk_drewN ?_ _ | refine blk_drew ?_ | refine blk_alloc ?_ _)); refine blk_far ?_ NB407_408.out _; (with_reducible repeat (first | refine blk_drewN ?_ _ | refine blk_drew ?_ | refine blk_alloc ?_ _)); refine blk_far ?_ NB407_408.out _; (with_reducible repeat (first | refine blk_drewN ?_ _ | refine blk_drew ?_ | refine blk_alloc ?_ _)); refine blk_put (cs := #[.int .u8 a0_0, .int .u8 (Int.tmod a0_1 16), .int .u8 a0_2, .int .i16 a0_3, .int .i32 a0_4]) ?_ 2 _ rfl; (with_reducible repeat (first | refine blk_drewN ?_ _ | refine blk_drew ?_ | refine blk_alloc ?_ _)); refine blk_put (cs := #[.int .u8 a0_0, .int .u8 a0_1, .int .u8 a0_2, .int .i16 a0_3, .int .i32 a0_4]) ?_ 1 _ rfl; (with_reducible repeat (first | refine blk_drewN ?_ _ | refine blk_drew ?_ | refine blk_alloc ?_ _)); exact BK407.out) hb); have n1_ := am (blk_below (g := gb408) (o := .cells #[.int .u8 a1_0, .int .u8 (Int.tmod a1_1 16), .int .u8 (Int.tmod a1_2 16), .int .i16 a1_3, .int .i32 a1_4] 24 (0, 0)) (by (with_reducible repeat (first | refine blk_drewN ?_ _ | refine blk_drew ?_ | refine blk_alloc ?_ _)); refine blk_put (cs := #[.int .u8 a1_0, .int .u8 (Int.tmod a1_1 16), .int .u8 a1_2, .int .i16 a1_3, .int .i32 a1_4]) ?_ 2 _ rfl; (with_reducible repeat (first | refine blk_drewN ?_ _ | refine blk_drew ?_ | refine blk_alloc ?_ _)); refine blk_put (cs := #[.int .u8 a1_0, .int .u8 a1_1, .int .u8 a1_2, .int .i16 a1_3, .int .i32 a1_4]) ?_ 1 _ rfl; (with_reducible repeat (first | refine blk_drewN ?_ _ | refine blk_drew ?_ | refine blk_alloc ?_ _)); refine blk_far ?_ NB408_407.out _; (with_reducible repeat (first | refine blk_drewN ?_ _ | refine blk_drew ?_ | refine blk_alloc ?_ _)); refine blk_far ?_ NB408_407.out _; (with_reducible repeat (first | refine blk_drewN ?_ _ | refine blk_drew ?_ | refine blk_alloc ?_ _)); exact BK408.out) hb); have n2_ := am (below_step (by repeat (first | exact HB.out | apply pb | apply pa | apply pd | refine below_set ?_ GE407.out | refine below_set ?_ GE408.out)) hb); clear BK407; clear BK408; clear HB; have BK407 := n0_; have BK408 := n1_; have HB := n2_; clear n0_ n1_ n2_; (try clear hb); (try clear hb2); (try clear hk); (try clear hi)) | ((with_reducible refine gate_callee (f := 15) rfl ?_); refine goesL_ (some 34) rfl rfl Try.func15 (by kernel_rfl) rfl #[.string t410] rfl (by (try simp only [List.map_toArray, List.map_cons, List.map_nil]); first | done | rfl) ?_; (with_reducible refine (insn_Decode.calls k t410 t411 t412 t413 t414 t415 t416 _ A10.out).mono ?_); rintro e w102 ⟨rfl, hb⟩; refine ⟨_, rfl, ?_⟩; have n0_ := am (blk_below (g := gb407) (o := .cells #[.int .u8 a0_0, .int .u8 (Int.tmod a0_1 16), .int .u8 (Int.tmod a0_2 16), .int .i16 a0_3, .int .i32 a0_4] 24 (0, 0)) (by first | exact BK407.out | exact blk_drewN BK407.out _) hb); have n1_ := am (blk_below (g := gb408) (o := .cells #[.int .u8 a1_0, .int .u8 (Int.tmod a1_1 16), .int .u8 (Int.tmod a1_2 16), .int .i16 a1_3, .int .i32 a1_4] 24 (0, 0)) (by first | exact BK408.out | exact blk_drewN BK408.out _) hb); have n2_ := am (below_step (by repeat (first | exact HB.out | apply pb | apply pa | apply pd | refine below_set ?_ GE407.out | refine below_set ?_ GE408.out)) hb); clear BK407; clear BK408; clear HB; have BK407 := n0_; have BK408 := n1_; have HB := n2_; clear n0_ n1_ n2_; (try clear hb); (try clear hb2); (try clear hk); (try clear hi)) | ((with_reducible refine gate_dst (N := 7) rfl ?_); (try (refine gate_guard (by rfl) ?_; dsimp only)); refine box_event ?hg (N := 7) ?hd (cs := #[.int .u8 0, .int .u8 0, .int .u8 0, .int .i16 0, .int .i32 0]) (t := 24) ?hr ?_; (case hd => rfl); (case hg => rfl); (case hr => first | (go_simp; done) | (go_simp; rfl)); intro gb417 hg w103 hbox hb; have n0_ := am (blk_below (g := gb407) (o := .cells #[.int .u8 a0_0, .int .u8 (Int.tmod a0_1 16), .int .u8 (Int.tmod a0_2 16), .int .i16 a0_3, .int .i32 a0_4] 24 (0, 0)) (by first | exact BK407.out | exact blk_drewN BK407.out _) hb); have n1_ := am (blk_below (g := gb408) (o := .cells #[.int .u8 a1_0, .int .u8 (Int.tmod a1_1 16), .int .u8 (Int.tmod a1_2 16), .int .i16 a1_3, .int .i32 a1_4] 24 (0, 0)) (by first | exact BK408.out | exact blk_drewN BK408.out _) hb); have n2_ := am (below_step (by repeat (first | exact HB.out | apply pb | apply pa | apply pd | refine below_set ?_ GE407.out | refine below_set ?_ GE408.out)) hb); have n3_ := am (hbox); have n4_ := am ((by rw [hg]; exact (below_size (by repeat (first | exact HB.out | apply pb | apply pa | apply pd | refine below_set ?_ GE407.out | refine below_set ?_ GE408.out))) : w.heap.size ≤ gb417)); have n5_ := am ((by rw [hg]; exact (below_size (by repeat (first | exact HB.out | apply pb | apply pa | apply pd | refine below_set ?_ GE407.out | refine below_set ?_ GE408.out))) : w.heap.size ≤ gb417)); have n6_ := am ((by rw [hg]; exact Nat.ne_of_lt (blk_lt (g := gb407) (o := .cells #[.int .u8 a0_0, .int .u8 (Int.tmod a0_1 16), .int .u8 (Int.tmod a0_2 16), .int .i16 a0_3, .int .i32 a0_4] 24 (0, 0)) (by first | exact BK407.out | exact blk_drewN BK407.out _)) : gb407 ≠ gb417)); have n7_ := am ((by rw [hg]; exact Nat.ne_of_gt (blk_lt (g := gb407) (o := .cells #[.int .u8 a0_0, .int .u8 (Int.tmod a0_1 16), .int .u8 (Int.tmod a0_2 16), .int .i16 a0_3, .int .i32 a0_4] 24 (0, 0)) (by first | exact BK407.out | exact blk_drewN BK407.out _)) : gb417 ≠ gb407)); have n8_ := am ((by rw [hg]; exact Nat.ne_of_lt (blk_lt (g := gb408) (o := .cells #[.int .u8 a1_0, .int .u8 (Int.tmod a1_1 16), .int .u8 (Int.tmod a1_2 16), .int .i16 a1_3, .int .i32 a1_4] 24 (0, 0)) (by first | exact BK408.out | exact blk_drewN BK408.out _)) : gb408 ≠ gb417)); have n9_ := am ((by rw [hg]; exact Nat.ne_of_gt (blk_lt (g := gb408) (o := .cells #[.int .u8 a1_0, .int .u8 (Int.tmod a1_1 16), .int .u8 (Int.tmod a1_2 16), .int .i16 a1_3, .int .i32 a1_4] 24 (0, 0)) (by first | exact BK408.out | exact blk_drewN BK408.out _)) : gb417 ≠ gb408)); clear BK407; clear BK408; clear HB; have BK407 := n0_; have BK408 := n1_; have HB := n2_; have BK417 := n3_; have GW417 := n4_; have GE417 := n5_; have NB407_417 := n6_; have NB417_407 := n7_; have NB408_417 := n8_; have NB417_408 := n9_; clear n0_ n1_ n2_ n3_ n4_ n5_ n6_ n7_ n8_ n9_; clear hb hbox hg; have hnb104 := NB417_407.out; have hnc104 := NB407_417.out; have hnb105 := NB417_408.out; have hnc105 := NB408_417.out; have hcz106_0 : w103.cell? ⟨gb417, 0, none⟩ = some (.int .u8 0) := (blk_cell BK417.out 0).trans rfl; have hcz106_1 : w103.cell? ⟨gb417, 1, none⟩ = some (.int .u8 0) := (blk_cell BK417.out 1).trans rfl; have hcz106_2 : w103.cell? ⟨gb417, 2, none⟩ = some (.int .u8 0) := (blk_cell BK417.out 2).trans rfl; have hcz106_3 : w103.cell? ⟨gb417, 3, none⟩ = some (.int .i16 0) := (blk_cell BK417.out 3).trans rfl; have hcz106_4 : w103.cell? ⟨gb417, 4, none⟩ = some (.int .i32 0) := (blk_cell BK417.out 4).trans rfl; have hfz106_0 := blk_frozen BK417.out 0; have hfz106_1 := blk_frozen BK417.out 1; have hfz106_2 := blk_frozen BK417.out 2; have hfz106_3 := blk_frozen BK417.out 3; have hfz106_4 := blk_frozen BK417.out 4) | ((with_reducible refine gate_callee (f := 15) rfl ?_); refine goesL_ (some 39) rfl rfl Try.func15 (by kernel_rfl) rfl #[.string a2] rfl (by (try simp only [List.map_toArray, List.map_cons, List.map_nil]); first | done | rfl) ?_; (with_reducible refine (insn_Decode.calls k a2 t418 t419 t420 t421 t422 t423 _ A11.out).mono ?_); rintro e w107 ⟨rfl, hb⟩; refine ⟨_, rfl, ?_⟩; have n0_ := am (blk_below (g := gb407) (o := .cells #[.int .u8 a0_0, .int .u8 (Int.tmod a0_1 16), .int .u8 (Int.tmod a0_2 16), .int .i16 a0_3, .int .i32 a0_4] 24 (0, 0)) (by (with_reducible repeat (first | refine blk_drewN ?_ _ | refine blk_drew ?_ | refine blk_alloc ?_ _)); refine blk_far ?_ NB407_417.out _; (with_reducible repeat (first | refine blk_drewN ?_ _ | refine blk_drew ?_ | refine blk_alloc ?_ _)); refine blk_far ?_ NB407_417.out _; (with_reducible repeat (first | refine blk_drewN ?_ _ | refine blk_drew ?_ | refine blk_alloc ?_ _)); refine blk_far ?_ NB407_417.out _; (with_reducible repeat (first | refine blk_drewN ?_ _ | refine blk_drew ?_ | refine blk_alloc ?_ _)); refine blk_far ?_ NB407_417.out _; (with_reducible repeat (first | refine blk_drewN ?_ _ | refine blk_drew ?_ | refine blk_alloc ?_ _)); refine blk_far ?_ NB407_417.out _; (with_reducible repeat (first | refine blk_drewN ?_ _ | refine blk_drew ?_ | refine blk_alloc ?_ _)); exact BK407.out) hb); have n1_ := am (blk_below (g := gb408) (o := .cells #[.int .u8 a1_0, .int .u8 (Int.tmod a1_1 16), .int .u8 (Int.tmod a1_2 16), .int .i16 a1_3, .int .i32 a1_4] 24 (0, 0)) (by (with_reducible repeat (first | refine blk_drewN ?_ _ | refine blk_drew ?_ | refine blk_alloc ?_ _)); refine blk_far ?_ NB408_417.out _; (with_reducible repeat (first | refine blk_drewN ?_ _ | refine blk_drew ?_ | refine blk_alloc ?_ _)); refine blk_far ?_ NB408_417.out _; (with_reducible repeat (first | refine blk_drewN ?_ _ | refine blk_drew ?_ | refine blk_alloc ?_ _)); refine blk_far ?_ NB408_417.out _; (with_reducible repeat (first | refine blk_drewN ?_ _ | refine blk_drew ?_ | refine blk_alloc ?_ _)); refine blk_far ?_ NB408_417.out _; (with_reducible repeat (first | refine blk_drewN ?_ _ | refine blk_drew ?_ | refine blk_alloc ?_ _)); refine blk_far ?_ NB408_417.out _; (with_reducible repeat (first | refine blk_drewN ?_ _ | refine blk_drew ?_ | refine blk_alloc ?_ _)); exact BK408.out) hb); have n2_ := am (blk_below (g := gb417) (o := .cells #[.int .u8 t411, .int .u8 t412, .int .u8 t413, .int .i16 t414, .int .i32 t415] 24 (0, 0)) (by (with_reducible repeat (first | refine blk_drewN ?_ _ | refine blk_drew ?_ | refine blk_alloc ?_ _)); refine blk_put (cs := #[.int .u8 t411, .int .u8 t412, .int .u8 t413, .int .i16 t414, .int .i32 0]) ?_ 4 _ rfl; (with_reducible repeat (first | refine blk_drewN ?_ _ | refine blk_drew ?_ | refine blk_alloc ?_ _)); refine blk_put (cs := #[.int .u8 t411, .int .u8 t412, .int .u8 t413, .int .i16 0, .int .i32 0]) ?_ 3 _ rfl; (with_reducible repeat (first | refine blk_drewN ?_ _ | refine blk_drew ?_ | refine blk_alloc ?_ _)); refine blk_put (cs := #[.int .u8 t411, .int .u8 t412, .int .u8 0, .int .i16 0, .int .i32 0]) ?_ 2 _ rfl; (with_reducible repeat (first | refine blk_drewN ?_ _ | refine blk_drew ?_ | refine blk_alloc ?_ _)); refine blk_put (cs := #[.int .u8 t411, .int .u8 0, .int .u8 0, .int .i16 0, .int .i32 0]) ?_ 1 _ rfl; (with_reducible repeat (first | refine blk_drewN ?_ _ | refine blk_drew ?_ | refine blk_alloc ?_ _)); refine blk_put (cs := #[.int .u8 0, .int .u8 0, .int .u8 0, .int .i16 0, .int .i32 0]) ?_ 0 _ rfl; (with_reducible repeat (first | refine blk_drewN ?_ _ | refine blk_drew ?_ | refine blk_alloc ?_ _)); exact BK417.out) hb); have n3_ := am (below_step (by repeat (first | exact HB.out | apply pb | apply pa | apply pd | refine below_set ?_ GE407.out | refine below_set ?_ GE408.out | refine below_set ?_ GE417.out)) hb); clear BK407; clear BK408; clear BK417; clear HB; have BK407 := n0_; have BK408 := n1_; have BK417 := n2_; have HB := n3_; clear n0_ n1_ n2_ n3_; (try clear hb); (try clear hb2); (try clear hk); (try clear hi)) | ((with_reducible refine gate_dst (N := 9) rfl ?_); (try (refine gate_guard (by rfl) ?_; dsimp only)); refine box_event ?hg (N := 9) ?hd (cs := #[.int .u8 0, .int .u8 0, .int .u8 0, .int .i16 0, .int .i32 0]) (t := 24) ?hr ?_; (case hd => rfl); (case hg => rfl); (case hr => first | (go_simp; done) | (go_simp; rfl)); intro gb424 hg w108 hbox hb; have n0_ := am (blk_below (g := gb407) (o := .cells #[.int .u8 a0_0, .int .u8 (Int.tmod a0_1 16), .int .u8 (Int.tmod a0_2 16), .int .i16 a0_3, .int .i32 a0_4] 24 (0, 0)) (by first | exact BK407.out | exact blk_drewN BK407.out _) hb); have n1_ := am (blk_below (g := gb408) (o := .cells #[.int .u8 a1_0, .int .u8 (Int.tmod a1_1 16), .int .u8 (Int.tmod a1_2 16), .int .i16 a1_3, .int .i32 a1_4] 24 (0, 0)) (by first | exact BK408.out | exact blk_drewN BK408.out _) hb); have n2_ := am (blk_below (g := gb417) (o := .cells #[.int .u8 t411, .int .u8 t412, .int .u8 t413, .int .i16 t414, .int .i32 t415] 24 (0, 0)) (by first | exact BK417.out | exact blk_drewN BK417.out _) hb); have n3_ := am (below_step (by repeat (first | exact HB.out | apply pb | apply pa | apply pd | refine below_set ?_ GE407.out | refine below_set ?_ GE408.out | refine below_set ?_ GE417.out)) hb); have n4_ := am (hbox); have n5_ := am ((by rw [hg]; exact (below_size (by repeat (first | exact HB.out | apply pb | apply pa | apply pd | refine below_set ?_ GE407.out | refine below_set ?_ GE408.out | refine below_set ?_ GE417.out))) : w.heap.size ≤ gb424)); have n6_ := am ((by rw [hg]; exact (below_size (by repeat (first | exact HB.out | apply pb | apply pa | apply pd | refine below_set ?_ GE407.out | refine below_set ?_ GE408.out | refine below_set ?_ GE417.out))) : w.heap.size ≤ gb424)); have n7_ := am ((by rw [hg]; exact Nat.ne_of_lt (blk_lt (g := gb407) (o := .cells #[.int .u8 a0_0, .int .u8 (Int.tmod a0_1 16), .int .u8 (Int.tmod a0_2 16), .int .i16 a0_3, .int .i32 a0_4] 24 (0, 0)) (by first | exact BK407.out | exact blk_drewN BK407.out _)) : gb407 ≠ gb424)); have n8_ := am ((by rw [hg]; exact Nat.ne_of_gt (blk_lt (g := gb407) (o := .cells #[.int .u8 a0_0, .int .u8 (Int.tmod a0_1 16), .int .u8 (Int.tmod a0_2 16), .int .i16 a0_3, .int .i32 a0_4] 24 (0, 0)) (by first | exact BK407.out | exact blk_drewN BK407.out _)) : gb424 ≠ gb407)); have n9_ := am ((by rw [hg]; exact Nat.ne_of_lt (blk_lt (g := gb408) (o := .cells #[.int .u8 a1_0, .int .u8 (Int.tmod a1_1 16), .int .u8 (Int.tmod a1_2 16), .int .i16 a1_3, .int .i32 a1_4] 24 (0, 0)) (by first | exact BK408.out | exact blk_drewN BK408.out _)) : gb408 ≠ gb424)); have n10_ := am ((by rw [hg]; exact Nat.ne_of_gt (blk_lt (g := gb408) (o := .cells #[.int .u8 a1_0, .int .u8 (Int.tmod a1_1 16), .int .u8 (Int.tmod a1_2 16), .int .i16 a1_3, .int .i32 a1_4] 24 (0, 0)) (by first | exact BK408.out | exact blk_drewN BK408.out _)) : gb424 ≠ gb408)); have n11_ := am ((by rw [hg]; exact Nat.ne_of_lt (blk_lt (g := gb417) (o := .cells #[.int .u8 t411, .int .u8 t412, .int .u8 t413, .int .i16 t414, .int .i32 t415] 24 (0, 0)) (by first | exact BK417.out | exact blk_drewN BK417.out _)) : gb417 ≠ gb424)); have n12_ := am ((by rw [hg]; exact Nat.ne_of_gt (blk_lt (g := gb417) (o := .cells #[.int .u8 t411, .int .u8 t412, .int .u8 t413, .int .i16 t414, .int .i32 t415] 24 (0, 0)) (by first | exact BK417.out | exact blk_drewN BK417.out _)) : gb424 ≠ gb417)); clear BK407; clear BK408; clear BK417; clear HB; have BK407 := n0_; have BK408 := n1_; have BK417 := n2_; have HB := n3_; have BK424 := n4_; have GW424 := n5_; have GE424 := n6_; have NB407_424 := n7_; have NB424_407 := n8_; have NB408_424 := n9_; have NB424_408 := n10_; have NB417_424 := n11_; have NB424_417 := n12_; clear n0_ n1_ n2_ n3_ n4_ n5_ n6_ n7_ n8_ n9_ n10_ n11_ n12_; clear hb hbox hg; have hnb109 := NB424_407.out; have hnc109 := NB407_424.out; have hnb110 := NB424_408.out; have hnc110 := NB408_424.out; have hnb111 := NB424_417.out; have hnc111 := NB417_424.out; have hcz112_0 : w108.cell? ⟨gb424, 0, none⟩ = some (.int .u8 0) := (blk_cell BK424.out 0).trans rfl; have hcz112_1 : w108.cell? ⟨gb424, 1, none⟩ = some (.int .u8 0) := (blk_cell BK424.out 1).trans rfl; have hcz112_2 : w108.cell? ⟨gb424, 2, none⟩ = some (.int .u8 0) := (blk_cell BK424.out 2).trans rfl; have hcz112_3 : w108.cell? ⟨gb424, 3, none⟩ = some (.int .i16 0) := (blk_cell BK424.out 3).trans rfl; have hcz112_4 : w108.cell? ⟨gb424, 4, none⟩ = some (.int .i32 0) := (blk_cell BK424.out 4).trans rfl; have hfz112_0 := blk_frozen BK424.out 0; have hfz112_1 := blk_frozen BK424.out 1; have hfz112_2 := blk_frozen BK424.out 2; have hfz112_3 := blk_frozen BK424.out 3; have hfz112_4 := blk_frozen BK424.out 4))
        have n0_ : Aside0 ((((((w108.setCell ⟨gb424, 0, none⟩ (.int .u8 t418)).setCell ⟨gb424, 1, none⟩ (.int .u8 t419)).setCell ⟨gb424, 2, none⟩ (.int .u8 t420)).setCell ⟨gb424, 3, none⟩ (.int .i16 t421)).setCell ⟨gb424, 4, none⟩ (.int .i32 t422)).heap[gb407]? = some (.cells #[.int .u8 a0_0, .int .u8 (Int.tmod a0_1 16), .int .u8 (Int.tmod a0_2 16), .int .i16 a0_3, .int .i32 a0_4] 24 (0, 0))) := ⟨by (with_reducible repeat (first | refine blk_drewN ?_ _ | refine blk_drew ?_ | refine blk_alloc ?_ _)); refine blk_far ?_ NB407_424.out _; (with_reducible repeat (first | refine blk_drewN ?_ _ | refine blk_drew ?_ | refine blk_alloc ?_ _)); refine blk_far ?_ NB407_424.out _; (with_reducible repeat (first | refine blk_drewN ?_ _ | refine blk_drew ?_ | refine blk_alloc ?_ _)); refine blk_far ?_ NB407_424.out _; (with_reducible repeat (first | refine blk_drewN ?_ _ | refine blk_drew ?_ | refine blk_alloc ?_ _)); refine blk_far ?_ NB407_424.out _; (with_reducible repeat (first | refine blk_drewN ?_ _ | refine blk_drew ?_ | refine blk_alloc ?_ _)); refine blk_far ?_ NB407_424.out _; (with_reducible repeat (first | refine blk_drewN ?_ _ | refine blk_drew ?_ | refine blk_alloc ?_ _)); exact BK407.out⟩
        have n1_ : Aside0 ((((((w108.setCell ⟨gb424, 0, none⟩ (.int .u8 t418)).setCell ⟨gb424, 1, none⟩ (.int .u8 t419)).setCell ⟨gb424, 2, none⟩ (.int .u8 t420)).setCell ⟨gb424, 3, none⟩ (.int .i16 t421)).setCell ⟨gb424, 4, none⟩ (.int .i32 t422)).heap[gb408]? = some (.cells #[.int .u8 a1_0, .int .u8 (Int.tmod a1_1 16), .int .u8 (Int.tmod a1_2 16), .int .i16 a1_3, .int .i32 a1_4] 24 (0, 0))) := ⟨by (with_reducible repeat (first | refine blk_drewN ?_ _ | refine blk_drew ?_ | refine blk_alloc ?_ _)); refine blk_far ?_ NB408_424.out _; (with_reducible repeat (first | refine blk_drewN ?_ _ | refine blk_drew ?_ | refine blk_alloc ?_ _)); refine blk_far ?_ NB408_424.out _; (with_reducible repeat (first | refine blk_drewN ?_ _ | refine blk_drew ?_ | refine blk_alloc ?_ _)); refine blk_far ?_ NB408_424.out _; (with_reducible repeat (first | refine blk_drewN ?_ _ | refine blk_drew ?_ | refine blk_alloc ?_ _)); refine blk_far ?_ NB408_424.out _; (with_reducible repeat (first | refine blk_drewN ?_ _ | refine blk_drew ?_ | refine blk_alloc ?_ _)); refine blk_far ?_ NB408_424.out _; (with_reducible repeat (first | refine blk_drewN ?_ _ | refine blk_drew ?_ | refine blk_alloc ?_ _)); exact BK408.out⟩
        have n2_ : Aside0 ((((((w108.setCell ⟨gb424, 0, none⟩ (.int .u8 t418)).setCell ⟨gb424, 1, none⟩ (.int .u8 t419)).setCell ⟨gb424, 2, none⟩ (.int .u8 t420)).setCell ⟨gb424, 3, none⟩ (.int .i16 t421)).setCell ⟨gb424, 4, none⟩ (.int .i32 t422)).heap[gb417]? = some (.cells #[.int .u8 t411, .int .u8 t412, .int .u8 t413, .int .i16 t414, .int .i32 t415] 24 (0, 0))) := ⟨by (with_reducible repeat (first | refine blk_drewN ?_ _ | refine blk_drew ?_ | refine blk_alloc ?_ _)); refine blk_far ?_ NB417_424.out _; (with_reducible repeat (first | refine blk_drewN ?_ _ | refine blk_drew ?_ | refine blk_alloc ?_ _)); refine blk_far ?_ NB417_424.out _; (with_reducible repeat (first | refine blk_drewN ?_ _ | refine blk_drew ?_ | refine blk_alloc ?_ _)); refine blk_far ?_ NB417_424.out _; (with_reducible repeat (first | refine blk_drewN ?_ _ | refine blk_drew ?_ | refine blk_alloc ?_ _)); refine blk_far ?_ NB417_424.out _; (with_reducible repeat (first | refine blk_drewN ?_ _ | refine blk_drew ?_ | refine blk_alloc ?_ _)); refine blk_far ?_ NB417_424.out _; (with_reducible repeat (first | refine blk_drewN ?_ _ | refine blk_drew ?_ | refine blk_alloc ?_ _)); exact BK417.out⟩
        have n3_ : Aside0 ((((((w108.setCell ⟨gb424, 0, none⟩ (.int .u8 t418)).setCell ⟨gb424, 1, none⟩ (.int .u8 t419)).setCell ⟨gb424, 2, none⟩ (.int .u8 t420)).setCell ⟨gb424, 3, none⟩ (.int .i16 t421)).setCell ⟨gb424, 4, none⟩ (.int .i32 t422)).heap[gb424]? = some (.cells #[.int .u8 t418, .int .u8 t419, .int .u8 t420, .int .i16 t421, .int .i32 t422] 24 (0, 0))) := ⟨by (with_reducible repeat (first | refine blk_drewN ?_ _ | refine blk_drew ?_ | refine blk_alloc ?_ _)); refine blk_put (cs := #[.int .u8 t418, .int .u8 t419, .int .u8 t420, .int .i16 t421, .int .i32 0]) ?_ 4 _ rfl; (with_reducible repeat (first | refine blk_drewN ?_ _ | refine blk_drew ?_ | refine blk_alloc ?_ _)); refine blk_put (cs := #[.int .u8 t418, .int .u8 t419, .int .u8 t420, .int .i16 0, .int .i32 0]) ?_ 3 _ rfl; (with_reducible repeat (first | refine blk_drewN ?_ _ | refine blk_drew ?_ | refine blk_alloc ?_ _)); refine blk_put (cs := #[.int .u8 t418, .int .u8 t419, .int .u8 0, .int .i16 0, .int .i32 0]) ?_ 2 _ rfl; (with_reducible repeat (first | refine blk_drewN ?_ _ | refine blk_drew ?_ | refine blk_alloc ?_ _)); refine blk_put (cs := #[.int .u8 t418, .int .u8 0, .int .u8 0, .int .i16 0, .int .i32 0]) ?_ 1 _ rfl; (with_reducible repeat (first | refine blk_drewN ?_ _ | refine blk_drew ?_ | refine blk_alloc ?_ _)); refine blk_put (cs := #[.int .u8 0, .int .u8 0, .int .u8 0, .int .i16 0, .int .i32 0]) ?_ 0 _ rfl; (with_reducible repeat (first | refine blk_drewN ?_ _ | refine blk_drew ?_ | refine blk_alloc ?_ _)); exact BK424.out⟩
        have n4_ : Aside0 (Below w.heap.size w (((((w108.setCell ⟨gb424, 0, none⟩ (.int .u8 t418)).setCell ⟨gb424, 1, none⟩ (.int .u8 t419)).setCell ⟨gb424, 2, none⟩ (.int .u8 t420)).setCell ⟨gb424, 3, none⟩ (.int .i16 t421)).setCell ⟨gb424, 4, none⟩ (.int .i32 t422))) := ⟨by repeat (first | (with_reducible first | exact HB.out | apply below_alloc | apply pw_below_drewN | apply below_drew1 | refine below_set ?_ GE407.out | refine below_set ?_ GE408.out | refine below_set ?_ GE417.out | refine below_set ?_ GE424.out) | exact HB.out)⟩
        (try clear BK407)
        (try clear BK408)
        (try clear BK417)
        (try clear BK424)
        (try clear HB)
        generalize (((((w108.setCell ⟨gb424, 0, none⟩ (.int .u8 t418)).setCell ⟨gb424, 1, none⟩ (.int .u8 t419)).setCell ⟨gb424, 2, none⟩ (.int .u8 t420)).setCell ⟨gb424, 3, none⟩ (.int .i16 t421)).setCell ⟨gb424, 4, none⟩ (.int .i32 t422)) = w113 at n0_ n1_ n2_ n3_ n4_ ⊢
        have BK407 := n0_
        have BK408 := n1_
        have BK417 := n2_
        have BK424 := n3_
        have HB := n4_
        clear n0_ n1_ n2_ n3_ n4_
        have n0_ := am (blk_drew BK407.out)
        have n1_ := am (blk_drew BK408.out)
        have n2_ := am (blk_drew BK417.out)
        have n3_ := am (blk_drew BK424.out)
        have n4_ := am (below_drew1 HB.out)
        clear BK407
        clear BK408
        clear BK417
        clear BK424
        clear HB
        have BK407 := n0_
        have BK408 := n1_
        have BK417 := n2_
        have BK424 := n3_
        have HB := n4_
        clear n0_ n1_ n2_ n3_ n4_
        refine start_ (n := 46) (S := fun w' => w'.cell? ⟨gb417, 0, none⟩ = some (.int .u8 t411) ∧ w'.cell? ⟨gb417, 1, none⟩ = some (.int .u8 t412) ∧ w'.cell? ⟨gb417, 2, none⟩ = some (.int .u8 t413) ∧ w'.cell? ⟨gb417, 3, none⟩ = some (.int .i16 t414) ∧ w'.cell? ⟨gb417, 4, none⟩ = some (.int .i32 t415) ∧ w'.cell? ⟨gb407, 0, none⟩ = some (.int .u8 a0_0) ∧ w'.cell? ⟨gb407, 1, none⟩ = some (.int .u8 (Int.tmod a0_1 16)) ∧ w'.cell? ⟨gb407, 2, none⟩ = some (.int .u8 (Int.tmod a0_2 16)) ∧ w'.cell? ⟨gb407, 3, none⟩ = some (.int .i16 a0_3) ∧ w'.cell? ⟨gb407, 4, none⟩ = some (.int .i32 a0_4) ∧ w'.cell? ⟨gb408, 0, none⟩ = some (.int .u8 a1_0) ∧ w'.cell? ⟨gb408, 1, none⟩ = some (.int .u8 (Int.tmod a1_1 16)) ∧ w'.cell? ⟨gb408, 2, none⟩ = some (.int .u8 (Int.tmod a1_2 16)) ∧ w'.cell? ⟨gb408, 3, none⟩ = some (.int .i16 a1_3) ∧ w'.cell? ⟨gb408, 4, none⟩ = some (.int .i32 a1_4)) (ds := []) (ar 46 0) (by kernel_rfl) rfl rfl ⟨(blk_cell BK417.out 0).trans rfl, (blk_cell BK417.out 1).trans rfl, (blk_cell BK417.out 2).trans rfl, (blk_cell BK417.out 3).trans rfl, (blk_cell BK417.out 4).trans rfl, (blk_cell BK407.out 0).trans rfl, (blk_cell BK407.out 1).trans rfl, (blk_cell BK407.out 2).trans rfl, (blk_cell BK407.out 3).trans rfl, (blk_cell BK407.out 4).trans rfl, (blk_cell BK408.out 0).trans rfl, (blk_cell BK408.out 1).trans rfl, (blk_cell BK408.out 2).trans rfl, (blk_cell BK408.out 3).trans rfl, (blk_cell BK408.out 4).trans rfl⟩ (fun hHeld => ?_); refine with_tabW wardenlaw07_InsnBack.tab9 wardenlaw07_InsnBack.bits9 (fun HT_ HW_ => ?_)
        generalize w113.drew = w114 at BK407 BK408 BK417 BK424 HB hHeld ⊢
        refine take_ (i := 0) (N := some 42) (v := ?_) (a' := ?_) (ar 46 1) rfl rfl (take_ofW HT_.out HW_.out (by kernel_rfl)) (fun _ _ _ h => h) (Or.inl ⟨by rfl, ?_⟩) hHeld ?_ ?_
        rotate_left
        ·rintro w' ⟨s0, s1, s2, s3, s4, s5, s6, s7, s8, s9, s10, s11, s12, s13, s14⟩
         go_simp
         with_reducible rfl
        rotate_left
        ·simp only [Act.put, q1, q2, q3, i64_w, i32_w]
         rfl
        refine take_ (i := 1) (N := some 43) (v := ?_) (a' := ?_) (ar 46 3) rfl rfl (take_ofW HT_.out HW_.out (by kernel_rfl)) (fun _ _ _ h => h) (Or.inl ⟨by rfl, ?_⟩) hHeld ?_ ?_
        rotate_left
        ·rintro w' ⟨s0, s1, s2, s3, s4, s5, s6, s7, s8, s9, s10, s11, s12, s13, s14⟩
         go_simp
         with_reducible rfl
        rotate_left
        ·simp only [Act.put, q1, q2, q3, i64_w, i32_w]
         rfl
        refine pure_ (i := 2) (N := some 44) (v := ?_) (a' := ?_) (ar 46 7) rfl rfl (any_of HT_.out (by kernel_rfl)) (fun _ _ _ h => h) (Or.inl ⟨by rfl, ?_⟩) ?_ ?_
        rotate_left
        ·intro w'
         go_simp
         with_reducible rfl
        rotate_left
        ·simp only [Act.put, q1, q2, q3, i64_w, i32_w]
         rfl
        refine pure_ (i := 3) (N := some 45) (v := ?_) (a' := ?_) (ar 46 15) rfl rfl (any_of HT_.out (by kernel_rfl)) (fun _ _ _ h => h) (Or.inl ⟨by rfl, ?_⟩) ?_ ?_
        rotate_left
        ·intro w'
         go_simp
         with_reducible rfl
        rotate_left
        ·simp only [Act.put, q1, q2, q3, i64_w, i32_w]
         rfl
        refine pure_ (i := 4) (N := some 46) (v := ?_) (a' := ?_) (ar 46 31) rfl rfl (any_of HT_.out (by kernel_rfl)) (fun _ _ _ h => h) (Or.inl ⟨by rfl, ?_⟩) ?_ ?_
        rotate_left
        ·intro w'
         go_simp
         with_reducible rfl
        rotate_left
        ·simp only [Act.put, q1, q2, q3, i64_w, i32_w]
         rfl
        refine pure_ (i := 5) (N := some 47) (v := ?_) (a' := ?_) (ar 46 63) rfl rfl (any_of HT_.out (by kernel_rfl)) (fun _ _ _ h => h) (Or.inl ⟨by rfl, ?_⟩) ?_ ?_
        rotate_left
        ·intro w'
         go_simp
         with_reducible rfl
        rotate_left
        ·simp only [Act.put, q1, q2, q3, i64_w, i32_w]
         rfl
        refine pure_ (i := 6) (N := some 48) (v := ?_) (a' := ?_) (ar 46 127) rfl rfl (any_of HT_.out (by kernel_rfl)) (fun _ _ _ h => h) (Or.inl ⟨by rfl, ?_⟩) ?_ ?_
        rotate_left
        ·intro w'
         go_simp
         with_reducible rfl
        rotate_left
        ·simp only [Act.put, q1, q2, q3, i64_w, i32_w]
         rfl
        refine pure_ (i := 7) (N := some 49) (v := ?_) (a' := ?_) (ar 46 255) rfl rfl (any_of HT_.out (by kernel_rfl)) (fun _ _ _ h => h) (Or.inl ⟨by rfl, ?_⟩) ?_ ?_
        rotate_left
        ·intro w'
         go_simp
         with_reducible rfl
        rotate_left
        ·simp only [Act.put, q1, q2, q3, i64_w, i32_w]
         rfl
        refine take_ (i := 8) (N := some 50) (v := ?_) (a' := ?_) (ar 46 511) rfl rfl (take_ofW HT_.out HW_.out (by kernel_rfl)) (fun _ _ _ h => h) (Or.inl ⟨by rfl, ?_⟩) hHeld ?_ ?_
        rotate_left
        ·rintro w' ⟨s0, s1, s2, s3, s4, s5, s6, s7, s8, s9, s10, s11, s12, s13, s14⟩
         go_simp
         with_reducible rfl
        rotate_left
        ·simp only [Act.put, q1, q2, q3, i64_w, i32_w]
         rfl
        refine one_ (i := 9) (N := some 51) (ar 46 1023) rfl rfl (one_of HT_.out (by kernel_rfl)) (by decide) (fun K hK => ?_)
        refine goes_ Try.func17 (by kernel_rfl) rfl #[.agg #[.int .u8 a0_0, .int .u8 (Int.tmod a0_1 16), .int .u8 (Int.tmod a0_2 16), .int .i16 a0_3, .int .i32 a0_4]] (by rfl) rfl rfl (by (try simp only [List.map_toArray, List.map_cons, List.map_nil]); first | done | rfl) ?_
        with_reducible refine (insn_Encode.calls k a0_0 (Int.tmod a0_1 16) (Int.tmod a0_2 16) a0_3 a0_4 t425 _ A14.out).mono ?_
        rintro e w115 ⟨rfl, hb⟩
        refine ⟨_, rfl, ?_⟩
        have n0_ := am (blk_below (g := gb407) (o := .cells #[.int .u8 a0_0, .int .u8 (Int.tmod a0_1 16), .int .u8 (Int.tmod a0_2 16), .int .i16 a0_3, .int .i32 a0_4] 24 (0, 0)) (by first | exact BK407.out | exact blk_drewN BK407.out _) hb)
        have n1_ := am (blk_below (g := gb408) (o := .cells #[.int .u8 a1_0, .int .u8 (Int.tmod a1_1 16), .int .u8 (Int.tmod a1_2 16), .int .i16 a1_3, .int .i32 a1_4] 24 (0, 0)) (by first | exact BK408.out | exact blk_drewN BK408.out _) hb)
        have n2_ := am (blk_below (g := gb417) (o := .cells #[.int .u8 t411, .int .u8 t412, .int .u8 t413, .int .i16 t414, .int .i32 t415] 24 (0, 0)) (by first | exact BK417.out | exact blk_drewN BK417.out _) hb)
        have n3_ := am (blk_below (g := gb424) (o := .cells #[.int .u8 t418, .int .u8 t419, .int .u8 t420, .int .i16 t421, .int .i32 t422] 24 (0, 0)) (by first | exact BK424.out | exact blk_drewN BK424.out _) hb)
        have n4_ := am (below_step (by repeat (first | exact HB.out | apply pb | apply pa | apply pd | refine below_set ?_ GE407.out | refine below_set ?_ GE408.out | refine below_set ?_ GE417.out | refine below_set ?_ GE424.out)) hb)
        clear BK407
        clear BK408
        clear BK417
        clear BK424
        clear HB
        have BK407 := n0_
        have BK408 := n1_
        have BK417 := n2_
        have BK424 := n3_
        have HB := n4_
        clear n0_ n1_ n2_ n3_ n4_
        (try clear hb)
        (try clear hb2)
        (try clear hk)
        (try clear hi)
        refine hK.out _ _ ⟨(blk_cell BK417.out 0).trans rfl, (blk_cell BK417.out 1).trans rfl, (blk_cell BK417.out 2).trans rfl, (blk_cell BK417.out 3).trans rfl, (blk_cell BK417.out 4).trans rfl, (blk_cell BK407.out 0).trans rfl, (blk_cell BK407.out 1).trans rfl, (blk_cell BK407.out 2).trans rfl, (blk_cell BK407.out 3).trans rfl, (blk_cell BK407.out 4).trans rfl, (blk_cell BK408.out 0).trans rfl, (blk_cell BK408.out 1).trans rfl, (blk_cell BK408.out 2).trans rfl, (blk_cell BK408.out 3).trans rfl, (blk_cell BK408.out 4).trans rfl⟩ (fun hHeld => ?_)
        clear hK K
        refine norm_ (a' := ?_) ?_ ?_
        rotate_left
        ·show Act.put _ (some 51) _ = _
         simp only [Act.put, q1, q2, q3, i64_w, i32_w]
         rfl
        refine pure_ (i := 10) (N := some 52) (v := ?_) (a' := ?_) (ar 46 2047) rfl rfl (any_of HT_.out (by kernel_rfl)) (fun _ _ _ h => h) (Or.inl ⟨by rfl, ?_⟩) ?_ ?_
        rotate_left
        ·intro w'
         go_simp
         with_reducible rfl
        rotate_left
        ·simp only [Act.put, q1, q2, q3, i64_w, i32_w]
         rfl
        refine pure_ (i := 11) (N := some 53) (v := ?_) (a' := ?_) (ar 46 4095) rfl rfl (any_of HT_.out (by kernel_rfl)) (fun _ _ _ h => h) (Or.inl ⟨by rfl, ?_⟩) ?_ ?_
        rotate_left
        ·intro w'
         go_simp
         with_reducible rfl
        rotate_left
        ·simp only [Act.put, q1, q2, q3, i64_w, i32_w]
         rfl
        refine pure_ (i := 12) (N := some 54) (v := ?_) (a' := ?_) (ar 46 8191) rfl rfl (any_of HT_.out (by kernel_rfl)) (fun _ _ _ h => h) (Or.inl ⟨by rfl, ?_⟩) ?_ ?_
        rotate_left
        ·intro w'
         go_simp
         with_reducible rfl
        rotate_left
        ·simp only [Act.put, q1, q2, q3, i64_w, i32_w]
         rfl
        refine pure_ (i := 13) (N := some 55) (v := ?_) (a' := ?_) (ar 46 16383) rfl rfl (any_of HT_.out (by kernel_rfl)) (fun _ _ _ h => h) (Or.inl ⟨by rfl, ?_⟩) ?_ ?_
        rotate_left
        ·intro w'
         go_simp
         with_reducible rfl
        rotate_left
        ·simp only [Act.put, q1, q2, q3, i64_w, i32_w]
         rfl
        refine take_ (i := 14) (N := some 56) (v := ?_) (a' := ?_) (ar 46 32767) rfl rfl (take_ofW HT_.out HW_.out (by kernel_rfl)) (fun _ _ _ h => h) (Or.inl ⟨by rfl, ?_⟩) hHeld ?_ ?_
        rotate_left
        ·rintro w' ⟨s0, s1, s2, s3, s4, s5, s6, s7, s8, s9, s10, s11, s12, s13, s14⟩
         go_simp
         with_reducible rfl
        rotate_left
        ·simp only [Act.put, q1, q2, q3, i64_w, i32_w]
         rfl
        refine take_ (i := 16) (N := some 58) (v := ?_) (a' := ?_) (ar 46 98303) rfl rfl (take_ofW HT_.out HW_.out (by kernel_rfl)) (fun _ _ _ h => h) (Or.inl ⟨by rfl, ?_⟩) hHeld ?_ ?_
        rotate_left
        ·rintro w' ⟨s0, s1, s2, s3, s4, s5, s6, s7, s8, s9, s10, s11, s12, s13, s14⟩
         go_simp
         with_reducible rfl
        rotate_left
        ·simp only [Act.put, q1, q2, q3, i64_w, i32_w]
         rfl
        refine take_ (i := 19) (N := some 61) (v := ?_) (a' := ?_) (ar 46 622591) rfl rfl (take_ofW HT_.out HW_.out (by kernel_rfl)) (fun _ _ _ h => h) (Or.inl ⟨by rfl, ?_⟩) hHeld ?_ ?_
        rotate_left
        ·rintro w' ⟨s0, s1, s2, s3, s4, s5, s6, s7, s8, s9, s10, s11, s12, s13, s14⟩
         go_simp
         with_reducible rfl
        rotate_left
        ·simp only [Act.put, q1, q2, q3, i64_w, i32_w]
         rfl
        refine take_ (i := 20) (N := some 62) (v := ?_) (a' := ?_) (ar 46 1671167) rfl rfl (take_ofW HT_.out HW_.out (by kernel_rfl)) (fun _ _ _ h => h) (Or.inl ⟨by rfl, ?_⟩) hHeld ?_ ?_
        rotate_left
        ·rintro w' ⟨s0, s1, s2, s3, s4, s5, s6, s7, s8, s9, s10, s11, s12, s13, s14⟩
         go_simp
         with_reducible rfl
        rotate_left
        ·simp only [Act.put, q1, q2, q3, i64_w, i32_w]
         rfl
        refine pure_ (i := 21) (N := some 63) (v := ?_) (a' := ?_) (ar 46 3768319) rfl rfl (any_of HT_.out (by kernel_rfl)) (fun _ _ _ h => h) (Or.inl ⟨by rfl, ?_⟩) ?_ ?_
        rotate_left
        ·intro w'
         go_simp
         with_reducible rfl
        rotate_left
        ·simp only [Act.put, q1, q2, q3, i64_w, i32_w]
         rfl
        refine one_ (i := 15) (N := some 57) (ar 46 3801087) rfl rfl (one_of HT_.out (by kernel_rfl)) (by decide) (fun K hK => ?_)
        refine goes_ Try.func17 (by kernel_rfl) rfl #[.agg #[.int .u8 a0_0, .int .u8 (Int.tmod a0_1 16), .int .u8 (Int.tmod a0_2 16), .int .i16 a0_3, .int .i32 a0_4]] (by rfl) rfl rfl (by (try simp only [List.map_toArray, List.map_cons, List.map_nil]); first | done | rfl) ?_
        with_reducible refine (insn_Encode.calls k a0_0 (Int.tmod a0_1 16) (Int.tmod a0_2 16) a0_3 a0_4 t426 _ A16.out).mono ?_
        rintro e w116 ⟨rfl, hb⟩
        refine ⟨_, rfl, ?_⟩
        have n0_ := am (blk_below (g := gb407) (o := .cells #[.int .u8 a0_0, .int .u8 (Int.tmod a0_1 16), .int .u8 (Int.tmod a0_2 16), .int .i16 a0_3, .int .i32 a0_4] 24 (0, 0)) (by first | exact BK407.out | exact blk_drewN BK407.out _) hb)
        have n1_ := am (blk_below (g := gb408) (o := .cells #[.int .u8 a1_0, .int .u8 (Int.tmod a1_1 16), .int .u8 (Int.tmod a1_2 16), .int .i16 a1_3, .int .i32 a1_4] 24 (0, 0)) (by first | exact BK408.out | exact blk_drewN BK408.out _) hb)
        have n2_ := am (blk_below (g := gb417) (o := .cells #[.int .u8 t411, .int .u8 t412, .int .u8 t413, .int .i16 t414, .int .i32 t415] 24 (0, 0)) (by first | exact BK417.out | exact blk_drewN BK417.out _) hb)
        have n3_ := am (blk_below (g := gb424) (o := .cells #[.int .u8 t418, .int .u8 t419, .int .u8 t420, .int .i16 t421, .int .i32 t422] 24 (0, 0)) (by first | exact BK424.out | exact blk_drewN BK424.out _) hb)
        have n4_ := am (below_step (by repeat (first | exact HB.out | apply pb | apply pa | apply pd | refine below_set ?_ GE407.out | refine below_set ?_ GE408.out | refine below_set ?_ GE417.out | refine below_set ?_ GE424.out)) hb)
        clear BK407
        clear BK408
        clear BK417
        clear BK424
        clear HB
        have BK407 := n0_
        have BK408 := n1_
        have BK417 := n2_
        have BK424 := n3_
        have HB := n4_
        clear n0_ n1_ n2_ n3_ n4_
        (try clear hb)
        (try clear hb2)
        (try clear hk)
        (try clear hi)
        refine hK.out _ _ ⟨(blk_cell BK417.out 0).trans rfl, (blk_cell BK417.out 1).trans rfl, (blk_cell BK417.out 2).trans rfl, (blk_cell BK417.out 3).trans rfl, (blk_cell BK417.out 4).trans rfl, (blk_cell BK407.out 0).trans rfl, (blk_cell BK407.out 1).trans rfl, (blk_cell BK407.out 2).trans rfl, (blk_cell BK407.out 3).trans rfl, (blk_cell BK407.out 4).trans rfl, (blk_cell BK408.out 0).trans rfl, (blk_cell BK408.out 1).trans rfl, (blk_cell BK408.out 2).trans rfl, (blk_cell BK408.out 3).trans rfl, (blk_cell BK408.out 4).trans rfl⟩ (fun hHeld => ?_)
        clear hK K
        refine norm_ (a' := ?_) ?_ ?_
        rotate_left
        ·show Act.put _ (some 57) _ = _
         simp only [Act.put, q1, q2, q3, i64_w, i32_w]
         rfl
        refine one_ (i := 17) (N := some 59) (ar 46 3932159) rfl rfl (one_of HT_.out (by kernel_rfl)) (by decide) (fun K hK => ?_)
        refine goes_ Try.func17 (by kernel_rfl) rfl #[.agg #[.int .u8 a1_0, .int .u8 (Int.tmod a1_1 16), .int .u8 (Int.tmod a1_2 16), .int .i16 a1_3, .int .i32 a1_4]] (by rfl) rfl rfl (by (try simp only [List.map_toArray, List.map_cons, List.map_nil]); first | done | rfl) ?_
        with_reducible refine (insn_Encode.calls k a1_0 (Int.tmod a1_1 16) (Int.tmod a1_2 16) a1_3 a1_4 t427 _ A17.out).mono ?_
        rintro e w117 ⟨rfl, hb⟩
        refine ⟨_, rfl, ?_⟩
        have n0_ := am (blk_below (g := gb407) (o := .cells #[.int .u8 a0_0, .int .u8 (Int.tmod a0_1 16), .int .u8 (Int.tmod a0_2 16), .int .i16 a0_3, .int .i32 a0_4] 24 (0, 0)) (by first | exact BK407.out | exact blk_drewN BK407.out _) hb)
        have n1_ := am (blk_below (g := gb408) (o := .cells #[.int .u8 a1_0, .int .u8 (Int.tmod a1_1 16), .int .u8 (Int.tmod a1_2 16), .int .i16 a1_3, .int .i32 a1_4] 24 (0, 0)) (by first | exact BK408.out | exact blk_drewN BK408.out _) hb)
        have n2_ := am (blk_below (g := gb417) (o := .cells #[.int .u8 t411, .int .u8 t412, .int .u8 t413, .int .i16 t414, .int .i32 t415] 24 (0, 0)) (by first | exact BK417.out | exact blk_drewN BK417.out _) hb)
        have n3_ := am (blk_below (g := gb424) (o := .cells #[.int .u8 t418, .int .u8 t419, .int .u8 t420, .int .i16 t421, .int .i32 t422] 24 (0, 0)) (by first | exact BK424.out | exact blk_drewN BK424.out _) hb)
        have n4_ := am (below_step (by repeat (first | exact HB.out | apply pb | apply pa | apply pd | refine below_set ?_ GE407.out | refine below_set ?_ GE408.out | refine below_set ?_ GE417.out | refine below_set ?_ GE424.out)) hb)
        clear BK407
        clear BK408
        clear BK417
        clear BK424
        clear HB
        have BK407 := n0_
        have BK408 := n1_
        have BK417 := n2_
        have BK424 := n3_
        have HB := n4_
        clear n0_ n1_ n2_ n3_ n4_
        (try clear hb)
        (try clear hb2)
        (try clear hk)
        (try clear hi)
        refine hK.out _ _ ⟨(blk_cell BK417.out 0).trans rfl, (blk_cell BK417.out 1).trans rfl, (blk_cell BK417.out 2).trans rfl, (blk_cell BK417.out 3).trans rfl, (blk_cell BK417.out 4).trans rfl, (blk_cell BK407.out 0).trans rfl, (blk_cell BK407.out 1).trans rfl, (blk_cell BK407.out 2).trans rfl, (blk_cell BK407.out 3).trans rfl, (blk_cell BK407.out 4).trans rfl, (blk_cell BK408.out 0).trans rfl, (blk_cell BK408.out 1).trans rfl, (blk_cell BK408.out 2).trans rfl, (blk_cell BK408.out 3).trans rfl, (blk_cell BK408.out 4).trans rfl⟩ (fun hHeld => ?_)
        clear hK K
        refine norm_ (a' := ?_) ?_ ?_
        rotate_left
        ·show Act.put _ (some 59) _ = _
         simp only [Act.put, q1, q2, q3, i64_w, i32_w]
         rfl
        refine pure_ (i := 18) (N := some 60) (v := ?_) (a' := ?_) (ar 46 4194303) rfl rfl (any_of HT_.out (by kernel_rfl)) (fun _ _ _ h => h) (Or.inl ⟨by rfl, ?_⟩) ?_ ?_
        rotate_left
        ·intro w'
         go_simp
         with_reducible rfl
        rotate_left
        ·simp only [Act.put, q1, q2, q3, i64_w, i32_w]
         rfl
        refine pure_ (i := 22) (N := some 64) (v := ?_) (a' := ?_) (ar 46 8388607) rfl rfl (any_of HT_.out (by kernel_rfl)) (fun _ _ _ h => h) (Or.inl ⟨by rfl, ?_⟩) ?_ ?_
        rotate_left
        ·intro w'
         go_simp
         with_reducible rfl
        rotate_left
        ·simp only [Act.put, q1, q2, q3, i64_w, i32_w]
         rfl
        refine pure_ (i := 23) (N := some 65) (v := ?_) (a' := ?_) (ar 46 16777215) rfl rfl (any_of HT_.out (by kernel_rfl)) (fun _ _ _ h => h) (Or.inl ⟨by rfl, ?_⟩) ?_ ?_
        rotate_left
        ·intro w'
         go_simp
         with_reducible rfl
        rotate_left
        ·simp only [Act.put, q1, q2, q3, i64_w, i32_w]
         rfl
        refine pure_ (i := 24) (N := some 66) (v := ?_) (a' := ?_) (ar 46 33554431) rfl rfl (any_of HT_.out (by kernel_rfl)) (fun _ _ _ h => h) (Or.inl ⟨by rfl, ?_⟩) ?_ ?_
        rotate_left
        ·intro w'
         go_simp
         with_reducible rfl
        rotate_left
        ·simp only [Act.put, q1, q2, q3, i64_w, i32_w]
         rfl
        refine pure_ (i := 25) (N := some 67) (v := ?_) (a' := ?_) (ar 46 67108863) rfl rfl (any_of HT_.out (by kernel_rfl)) (fun _ _ _ h => h) (Or.inl ⟨by rfl, ?_⟩) ?_ ?_
        rotate_left
        ·intro w'
         go_simp
         with_reducible rfl
        rotate_left
        ·simp only [Act.put, q1, q2, q3, i64_w, i32_w]
         rfl
        refine pure_ (i := 26) (N := some 68) (v := ?_) (a' := ?_) (ar 46 134217727) rfl rfl (any_of HT_.out (by kernel_rfl)) (fun _ _ _ h => h) (Or.inl ⟨by rfl, ?_⟩) ?_ ?_
        rotate_left
        ·intro w'
         go_simp
         with_reducible rfl
        rotate_left
        ·simp only [Act.put, q1, q2, q3, i64_w, i32_w]
         rfl
        refine pure_ (i := 27) (N := some 69) (v := ?_) (a' := ?_) (ar 46 268435455) rfl rfl (any_of HT_.out (by kernel_rfl)) (fun _ _ _ h => h) (Or.inl ⟨by rfl, ?_⟩) ?_ ?_
        rotate_left
        ·intro w'
         go_simp
         with_reducible rfl
        rotate_left
        ·simp only [Act.put, q1, q2, q3, i64_w, i32_w]
         rfl
        refine pure_ (i := 28) (N := some 70) (v := undef) (a' := ?_) (ar 46 536870911) rfl rfl (any_of HT_.out (by kernel_rfl)) (fun _ _ _ h => h) (Or.inr ⟨by rfl, rfl⟩) ?_ ?_
        rotate_left
        ·simp only [Act.put, q1, q2, q3, i64_w, i32_w]
         rfl
        refine pure_ (i := 29) (N := some 71) (v := undef) (a' := ?_) (ar 46 1073741823) rfl rfl (any_of HT_.out (by kernel_rfl)) (fun _ _ _ h => h) (Or.inr ⟨by rfl, rfl⟩) ?_ ?_
        rotate_left
        ·simp only [Act.put, q1, q2, q3, i64_w, i32_w]
         rfl
        refine pure_ (i := 30) (N := some 72) (v := undef) (a' := ?_) (ar 46 2147483647) rfl rfl (any_of HT_.out (by kernel_rfl)) (fun _ _ _ h => h) (Or.inr ⟨by rfl, rfl⟩) ?_ ?_
        rotate_left
        ·simp only [Act.put, q1, q2, q3, i64_w, i32_w]
         rfl
        refine pure_ (i := 31) (N := some 73) (v := undef) (a' := ?_) (ar 46 4294967295) rfl rfl (any_of HT_.out (by kernel_rfl)) (fun _ _ _ h => h) (Or.inr ⟨by rfl, rfl⟩) ?_ ?_
        rotate_left
        ·simp only [Act.put, q1, q2, q3, i64_w, i32_w]
         rfl
        refine pure_ (i := 32) (N := some 74) (v := ?_) (a' := ?_) (ar 46 8589934591) rfl rfl (any_of HT_.out (by kernel_rfl)) (fun _ _ _ h => h) (Or.inl ⟨by rfl, ?_⟩) ?_ ?_
        rotate_left
        ·intro w'
         go_simp
         with_reducible rfl
        rotate_left
        ·simp only [Act.put, q1, q2, q3, i64_w, i32_w]
         rfl
        refine pure_ (i := 33) (N := some 75) (v := ?_) (a' := ?_) (ar 46 17179869183) rfl rfl (any_of HT_.out (by kernel_rfl)) (fun _ _ _ h => h) (Or.inl ⟨by rfl, ?_⟩) ?_ ?_
        rotate_left
        ·intro w'
         go_simp
         with_reducible rfl
        rotate_left
        ·simp only [Act.put, q1, q2, q3, i64_w, i32_w]
         rfl
        refine pure_ (i := 34) (N := some 76) (v := ?_) (a' := ?_) (ar 46 34359738367) rfl rfl (any_of HT_.out (by kernel_rfl)) (fun _ _ _ h => h) (Or.inl ⟨by rfl, ?_⟩) ?_ ?_
        rotate_left
        ·intro w'
         go_simp
         with_reducible rfl
        rotate_left
        ·simp only [Act.put, q1, q2, q3, i64_w, i32_w]
         rfl
        refine pure_ (i := 35) (N := some 77) (v := ?_) (a' := ?_) (ar 46 68719476735) rfl rfl (any_of HT_.out (by kernel_rfl)) (fun _ _ _ h => h) (Or.inl ⟨by rfl, ?_⟩) ?_ ?_
        rotate_left
        ·intro w'
         go_simp
         with_reducible rfl
        rotate_left
        ·simp only [Act.put, q1, q2, q3, i64_w, i32_w]
         rfl
        refine pure_ (i := 36) (N := some 78) (v := ?_) (a' := ?_) (ar 46 137438953471) rfl rfl (any_of HT_.out (by kernel_rfl)) (fun _ _ _ h => h) (Or.inl ⟨by rfl, ?_⟩) ?_ ?_
        rotate_left
        ·intro w'
         go_simp
         with_reducible rfl
        rotate_left
        ·simp only [Act.put, q1, q2, q3, i64_w, i32_w]
         rfl
        refine pure_ (i := 37) (N := some 79) (v := ?_) (a' := ?_) (ar 46 274877906943) rfl rfl (any_of HT_.out (by kernel_rfl)) (fun _ _ _ h => h) (Or.inl ⟨by rfl, ?_⟩) ?_ ?_
        rotate_left
        ·intro w'
         go_simp
         with_reducible rfl
        rotate_left
        ·simp only [Act.put, q1, q2, q3, i64_w, i32_w]
         rfl
        refine pure_ (i := 38) (N := some 80) (v := ?_) (a' := ?_) (ar 46 549755813887) rfl rfl (any_of HT_.out (by kernel_rfl)) (fun _ _ _ h => h) (Or.inl ⟨by rfl, ?_⟩) ?_ ?_
        rotate_left
        ·intro w'
         go_simp
         with_reducible rfl
        rotate_left
        ·simp only [Act.put, q1, q2, q3, i64_w, i32_w]
         rfl
        refine pure_ (i := 39) (N := some 81) (v := ?_) (a' := ?_) (ar 46 1099511627775) rfl rfl (any_of HT_.out (by kernel_rfl)) (fun _ _ _ h => h) (Or.inl ⟨by rfl, ?_⟩) ?_ ?_
        rotate_left
        ·intro w'
         go_simp
         with_reducible rfl
        rotate_left
        ·simp only [Act.put, q1, q2, q3, i64_w, i32_w]
         rfl
        refine pure_ (i := 40) (N := some 82) (v := ?_) (a' := ?_) (ar 46 2199023255551) rfl rfl (any_of HT_.out (by kernel_rfl)) (fun _ _ _ h => h) (Or.inl ⟨by rfl, ?_⟩) ?_ ?_
        rotate_left
        ·intro w'
         go_simp
         with_reducible rfl
        rotate_left
        ·simp only [Act.put, q1, q2, q3, i64_w, i32_w]
         rfl
        refine pure_ (i := 41) (N := some 83) (v := ?_) (a' := ?_) (ar 46 4398046511103) rfl rfl (any_of HT_.out (by kernel_rfl)) (fun _ _ _ h => h) (Or.inl ⟨by rfl, ?_⟩) ?_ ?_
        rotate_left
        ·intro w'
         go_simp
         with_reducible rfl
        rotate_left
        ·simp only [Act.put, q1, q2, q3, i64_w, i32_w]
         rfl
        refine pure_ (i := 42) (N := some 84) (v := ?_) (a' := ?_) (ar 46 8796093022207) rfl rfl (any_of HT_.out (by kernel_rfl)) (fun _ _ _ h => h) (Or.inl ⟨by rfl, ?_⟩) ?_ ?_
        rotate_left
        ·intro w'
         go_simp
         with_reducible rfl
        rotate_left
        ·simp only [Act.put, q1, q2, q3, i64_w, i32_w]
         rfl
        refine one_ (i := 43) (N := some 85) (ar 46 17592186044415) rfl rfl (one_of HT_.out (by kernel_rfl)) (by decide) (fun K hK => ?_)
        refine goes_ Try.func14 (by kernel_rfl) rfl #[] (by rfl) rfl rfl (by (try simp only [List.map_toArray, List.map_cons, List.map_nil]); first | done | rfl) ?_
        with_reducible refine (wardenlaw07_alive.calls k t430 _ hr_ A95.out).mono ?_
        rintro e w118 ⟨rfl, hb⟩
        refine ⟨_, rfl, ?_⟩
        have n0_ := am (blk_below (g := gb407) (o := .cells #[.int .u8 a0_0, .int .u8 (Int.tmod a0_1 16), .int .u8 (Int.tmod a0_2 16), .int .i16 a0_3, .int .i32 a0_4] 24 (0, 0)) (by first | exact BK407.out | exact blk_drewN BK407.out _) hb)
        have n1_ := am (blk_below (g := gb408) (o := .cells #[.int .u8 a1_0, .int .u8 (Int.tmod a1_1 16), .int .u8 (Int.tmod a1_2 16), .int .i16 a1_3, .int .i32 a1_4] 24 (0, 0)) (by first | exact BK408.out | exact blk_drewN BK408.out _) hb)
        have n2_ := am (blk_below (g := gb417) (o := .cells #[.int .u8 t411, .int .u8 t412, .int .u8 t413, .int .i16 t414, .int .i32 t415] 24 (0, 0)) (by first | exact BK417.out | exact blk_drewN BK417.out _) hb)
        have n3_ := am (blk_below (g := gb424) (o := .cells #[.int .u8 t418, .int .u8 t419, .int .u8 t420, .int .i16 t421, .int .i32 t422] 24 (0, 0)) (by first | exact BK424.out | exact blk_drewN BK424.out _) hb)
        have n4_ := am (below_step (by repeat (first | exact HB.out | apply pb | apply pa | apply pd | refine below_set ?_ GE407.out | refine below_set ?_ GE408.out | refine below_set ?_ GE417.out | refine below_set ?_ GE424.out)) hb)
        clear BK407
        clear BK408
        clear BK417
        clear BK424
        clear HB
        have BK407 := n0_
        have BK408 := n1_
        have BK417 := n2_
        have BK424 := n3_
        have HB := n4_
        clear n0_ n1_ n2_ n3_ n4_
        (try clear hb)
        (try clear hb2)
        (try clear hk)
        (try clear hi)
        refine hK.out _ _ ⟨(blk_cell BK417.out 0).trans rfl, (blk_cell BK417.out 1).trans rfl, (blk_cell BK417.out 2).trans rfl, (blk_cell BK417.out 3).trans rfl, (blk_cell BK417.out 4).trans rfl, (blk_cell BK407.out 0).trans rfl, (blk_cell BK407.out 1).trans rfl, (blk_cell BK407.out 2).trans rfl, (blk_cell BK407.out 3).trans rfl, (blk_cell BK407.out 4).trans rfl, (blk_cell BK408.out 0).trans rfl, (blk_cell BK408.out 1).trans rfl, (blk_cell BK408.out 2).trans rfl, (blk_cell BK408.out 3).trans rfl, (blk_cell BK408.out 4).trans rfl⟩ (fun hHeld => ?_)
        clear hK K
        refine norm_ (a' := ?_) ?_ ?_
        rotate_left
        ·show Act.put _ (some 85) _ = _
         simp only [Act.put, q1, q2, q3, i64_w, i32_w]
         rfl
        refine pure_ (i := 44) (N := some 86) (v := ?_) (a' := ?_) (ar 46 35184372088831) rfl rfl (any_of HT_.out (by kernel_rfl)) (fun _ _ _ h => h) (Or.inl ⟨by rfl, ?_⟩) ?_ ?_
        rotate_left
        ·intro w'
         go_simp
         with_reducible rfl
        rotate_left
        ·simp only [Act.put, q1, q2, q3, i64_w, i32_w]
         rfl
        refine pure_ (i := 45) (N := some 6) (v := ?_) (a' := ?_) (ar 46 70368744177663) rfl rfl (any_of HT_.out (by kernel_rfl)) (fun _ _ _ h => h) (Or.inl ⟨by rfl, ?_⟩) ?_ ?_
        rotate_left
        ·intro w'
         go_simp
         with_reducible rfl
        rotate_left
        ·simp only [Act.put, q1, q2, q3, i64_w, i32_w]
         rfl
        refine done_ (done_of HT_.out (by kernel_rfl)) ?_
        try go_wp2
        go_ret
        exact ⟨by first | rfl | (simp [errW_none, errW_some] <;> rfl) | (simp [*, errW_none, errW_some] <;> rfl), by repeat (first | (with_reducible first | exact HB.out | apply below_alloc | apply pw_below_drewN | apply below_drew1 | refine below_set ?_ GE407.out | refine below_set ?_ GE408.out | refine below_set ?_ GE417.out | refine below_set ?_ GE424.out) | exact HB.out)⟩
       ·rw [if_neg c94] at H
        have c94b0 : ((t423 == 0) == ((a2.size : Int) == 8)) = false := by simpa using c94
        (try (have c94b1 : decide ((t423 == 0) = ((a2.size : Int) == 8)) = false := by simpa using c94))
        (try (have c94b2 : ((t423 == 0) == ((a2.size : Int) == 8)) = false := by simpa using c94))
        (try (have c94b3 : ¬ ((t423 == 0) = ((a2.size : Int) == 8)) := by simpa using c94))
        clear c94
        exact absurd ((Option.some.inj H).trans hr_.out) (by decide)
     ·rw [if_neg c18] at H
      have c18b0 : ((t426.toList == t427.toList) == (a0_0 == a1_0 && ((Int.tmod a0_1 16) == (Int.tmod a1_1 16) && ((Int.tmod a0_2 16) == (Int.tmod a1_2 16) && (a0_3 == a1_3 && (a0_4 == a1_4)))))) = false := by simpa using c18
      (try (have c18b1 : decide ((t426.toList == t427.toList) = (a0_0 == a1_0 && ((Int.tmod a0_1 16) == (Int.tmod a1_1 16) && ((Int.tmod a0_2 16) == (Int.tmod a1_2 16) && (a0_3 == a1_3 && (a0_4 == a1_4)))))) = false := by simpa using c18))
      (try (have c18b2 : ((t426.toList == t427.toList) == (a0_0 == a1_0 && ((Int.tmod a0_1 16) == (Int.tmod a1_1 16) && ((Int.tmod a0_2 16) == (Int.tmod a1_2 16) && (a0_3 == a1_3 && (a0_4 == a1_4)))))) = false := by simpa using c18))
      (try (have c18b3 : ¬ ((t426.toList == t427.toList) = (a0_0 == a1_0 && ((Int.tmod a0_1 16) == (Int.tmod a1_1 16) && ((Int.tmod a0_2 16) == (Int.tmod a1_2 16) && (a0_3 == a1_3 && (a0_4 == a1_4)))))) := by simpa using c18))
      clear c18
      exact absurd ((Option.some.inj H).trans hr_.out) (by decide)
    ·rw [if_neg c15] at H
     have c15b0 : ((t425.size : Int) == 8) = false := beq_eq_false_iff_ne.mpr c15
     have c15b1 : ((t425.size : Int) != 8) = true := bne_iff_ne.mpr c15
     exact absurd ((Option.some.inj H).trans hr_.out) (by decide)
   ·rw [if_neg c13] at H
    have c13b0 : (t416 == 0) = false := beq_eq_false_iff_ne.mpr c13
    have c13b1 : (t416 != 0) = true := bne_iff_ne.mpr c13
    exact absurd ((Option.some.inj H).trans hr_.out) (by decide)
  ·rw [if_neg c12] at H
   have c12b0 : (t411 == a0_0 && (t412 == (Int.tmod a0_1 16) && (t413 == (Int.tmod a0_2 16) && (t414 == a0_3 && (t415 == a0_4))))) = false := by simpa using c12
   (try (have c12b1 : decide (t411 = a0_0 && (t412 == (Int.tmod a0_1 16) && (t413 == (Int.tmod a0_2 16) && (t414 == a0_3 && (t415 == a0_4))))) = false := by simpa using c12))
   (try (have c12b2 : (t411 == a0_0 && (t412 == (Int.tmod a0_1 16) && (t413 == (Int.tmod a0_2 16) && (t414 == a0_3 && (t415 == a0_4))))) = false := by simpa using c12))
   (try (have c12b3 : ¬ (t411 = a0_0 && (t412 == (Int.tmod a0_1 16) && (t413 == (Int.tmod a0_2 16) && (t414 == a0_3 && (t415 == a0_4))))) := by simpa using c12))
   clear c12
   exact absurd ((Option.some.inj H).trans hr_.out) (by decide)
end Go.Proofs.Ytibghcmkmbamjaa.PI
