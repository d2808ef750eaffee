-- turned from the kit's print
import Derived.Test.YtibghcmkmbamjaaPIx0
import Derived.Test.YtibghcmkmbamjaaShort
import Derived.Test.YtibghcmkmbamjaaPIx1
import Derived.Test.YtibghcmkmbamjaaPIx2
import Derived.Test.YtibghcmkmbamjaaPIx3
import Derived.Test.YtibghcmkmbamjaaPIx8
import Derived.Test.YtibghcmkmbamjaaPIx9
import Derived.Test.YtibghcmkmbamjaaPIx9b
import Derived.Test.YtibghcmkmbamjaaPIx10
import Derived.Test.YtibghcmkmbamjaaPIx11
import Derived.Test.YtibghcmkmbamjaaPIx12
import Derived.Test.YtibghcmkmbamjaaPIx15
import Derived.Test.YtibghcmkmbamjaaPIx16
namespace Go.Proofs.Ytibghcmkmbamjaa.PI
open Go.RowKit Go.Proofs.YtibghcmkmbamjaaW.PrintWords Go.Proofs.YtibghcmkmbamjaaW.PrintLast Go.Proofs.YtibghcmkmbamjaaW.PrintMore
attribute [local go_sem] max2_int min2_int max_two min_two max_three min_three max_four min_four   -- for this text's walks alone
set_option linter.unusedVariables false
set_option linter.unusedSimpArgs false

attribute [local go_sem high] eqA24
/-! ### wardenlaw07_InsnTells: function 3 -/
def wardenlaw07_InsnTells.f (k : Nat) (a0_0 : Int) (a0_1 : Int) (a0_2 : Int) (a0_3 : Int) (a0_4 : Int) (a1 : ByteArray) : Option (Bool) := if (a1.size : Int) > 4096 then ((wardenlaw07_alive.f k).bind fun t331 => (some t331)) else ((insn_Decode.f k a1).bind fun bt332 => ((wardenref07_Decode.f k a1).bind fun bt339 => (if (bt332.1 == bt339.1 && (bt332.2.1 == bt339.2.1 && (bt332.2.2.1 == bt339.2.2.1 && (bt332.2.2.2.1 == bt339.2.2.2.1 && (bt332.2.2.2.2.1 == bt339.2.2.2.2.1))))) = true then (if bt332.2.2.2.2.2 = bt339.2.2.2.2.2 then ((insn_Encode.f k a0_0 a0_1 a0_2 a0_3 a0_4).bind fun t346 => ((wardenref07_Encode.f k a0_0 a0_1 a0_2 a0_3 a0_4).bind fun t347 => (if t346.toList = t347.toList then ((insn_Kind.f k a0_0 a0_1 a0_2 a0_3 a0_4).bind fun t348 => ((wardenref07_Kind.f k a0_0 a0_1 a0_2 a0_3 a0_4).bind fun t349 => (if t348 = t349 then ((insn_Code.f a0_0 a0_1 a0_2 a0_3 a0_4).bind fun t350 => ((wardenref07_Code.f a0_0 a0_1 a0_2 a0_3 a0_4).bind fun t351 => (if t350 = t351 then ((insn_Size.f k a0_0 a0_1 a0_2 a0_3 a0_4).bind fun t352 => ((wardenref07_Size.f k a0_0 a0_1 a0_2 a0_3 a0_4).bind fun t353 => (if t352 = t353 then ((insn_Wide.f k a0_0 a0_1 a0_2 a0_3 a0_4).bind fun t354 => ((wardenref07_Wide.f k a0_0 a0_1 a0_2 a0_3 a0_4).bind fun t355 => (if (t354 == t355) = true then ((wardenlaw07_alive.f k).bind fun t356 => (some t356)) else (some false)))) else (some false)))) else (some false)))) else (some false)))) else (some false)))) else (some false)) else (some false))))
theorem wardenlaw07_InsnTells.mono : ∀ a0 a1 a2 a3 a4 a5 k, LeO (wardenlaw07_InsnTells.f k a0 a1 a2 a3 a4 a5) (wardenlaw07_InsnTells.f (k + 1) a0 a1 a2 a3 a4 a5) := by
 intro a0 a1 a2 a3 a4 a5 k
 unfold wardenlaw07_InsnTells.f
 repeat' first
   | (with_reducible exact insn_Decode.mono _ _)
   | (with_reducible exact insn_Encode.mono _ _ _ _ _ _)
   | (with_reducible exact insn_Kind.mono _ _ _ _ _ _)
   | (with_reducible exact insn_Size.mono _ _ _ _ _ _)
   | (with_reducible exact insn_Wide.mono _ _ _ _ _ _)
   | (with_reducible exact wardenlaw07_alive.mono _)
   | (with_reducible exact wardenref07_Decode.mono _ _)
   | (with_reducible exact wardenref07_Encode.mono _ _ _ _ _ _)
   | (with_reducible exact wardenref07_Kind.mono _ _ _ _ _ _)
   | (with_reducible exact wardenref07_Size.mono _ _ _ _ _ _)
   | (with_reducible exact wardenref07_Wide.mono _ _ _ _ _ _)
   | (with_reducible exact LeO.refl _)
   | (with_reducible exact LeO.none _)
   | (with_reducible refine LeO.ite ?_ ?_)
   | (with_reducible refine LeO.bind ?_ (fun _ => ?_))
   | exact insn_Decode.mono _ _
   | exact insn_Encode.mono _ _ _ _ _ _
   | exact insn_Kind.mono _ _ _ _ _ _
   | exact insn_Size.mono _ _ _ _ _ _
   | exact insn_Wide.mono _ _ _ _ _ _
   | exact wardenlaw07_alive.mono _
   | exact wardenref07_Decode.mono _ _
   | exact wardenref07_Encode.mono _ _ _ _ _ _
   | exact wardenref07_Kind.mono _ _ _ _ _ _
   | exact wardenref07_Size.mono _ _ _ _ _ _
   | exact wardenref07_Wide.mono _ _ _ _ _ _
   | exact LeO.none _
   | refine LeO.ite ?_ ?_
   | refine LeO.bind ?_ (fun _ => ?_)
def wardenlaw07_InsnTells.T5 : Bool × List (List Nat × List Nat) := (true, [([], []), ([], []), ([0, 1], [0, 1]), ([2], [2]), ([3], [3]), ([3], [3]), ([4, 5, 3], [3, 4, 5]), ([3, 6], [3, 6]), ([7, 3], [7]), ([8], [8]), ([9, 8, 8], [8, 9]), ([8], [8]), ([11, 10, 8], [8, 11]), ([10, 12, 8], [8, 10, 12]), ([8, 13], [8, 13]), ([14, 12], [14]), ([15], [15]), ([16, 15, 15], [15, 16]), ([15], [15]), ([18, 17, 15], [15, 18]), ([17, 19, 15], [15, 17, 19]), ([15, 20], [15, 20]), ([21, 19], [21]), ([22], [22]), ([23, 22, 22], [22, 23]), ([22], [22]), ([25, 24, 22], [22, 25]), ([24, 26, 22], [22, 24, 26]), ([22, 27], [22, 27]), ([28, 26], [28]), ([29], [29]), ([30, 29, 29], [29, 30]), ([29], [29]), ([32, 31, 29], [29, 32]), ([31, 33, 29], [29, 31, 33]), ([29, 34], [29, 34]), ([35, 33], [35]), ([36], [36]), ([37, 36, 36], [36, 37]), ([36], [36]), ([39, 38, 36], [36, 39]), ([38, 40, 36], [36, 38, 40]), ([36, 41], [36, 41]), ([42, 40], [42]), ([43, 43], [43]), ([43, 44], [43, 44]), ([45, 44, 0, 1, 2, 3, 4, 5, 6, 7, 8, 9, 10, 11, 12, 13, 14, 15, 16, 17, 18, 19, 20, 21, 22, 23, 24, 25, 26, 27, 28, 29, 30, 31, 32, 33, 34, 35, 36, 37, 38, 39, 40, 41, 42, 43, 44, 45], [45])])
def wardenlaw07_InsnTells.B5 : List Nat := [0, 0, 3, 7, 15, 15, 63, 127, 255, 511, 1023, 511, 4095, 8191, 16383, 32767, 65535, 131071, 65535, 524287, 1048575, 2097151, 4194303, 8388607, 16777215, 8388607, 67108863, 134217727, 268435455, 536870911, 1073741823, 2147483647, 1073741823, 8589934591, 17179869183, 34359738367, 68719476735, 137438953471, 274877906943, 137438953471, 1099511627775, 2199023255551, 4398046511103, 8796093022207, 17592186044415, 35184372088831, 70368744177663]
theorem wardenlaw07_InsnTells.tab5 : rtab .any (opsOf Try.f3 5) = wardenlaw07_InsnTells.T5 := by kernel_rfl
theorem wardenlaw07_InsnTells.bits5 : waitsOk wardenlaw07_InsnTells.T5.2 wardenlaw07_InsnTells.B5 = true := by kernel_rfl
set_option maxHeartbeats 8000000 in
set_option maxRecDepth 100000 in
theorem wardenlaw07_InsnTells.calls (k : Nat) (a0_0 : Int) (a0_1 : Int) (a0_2 : Int) (a0_3 : Int) (a0_4 : Int) (a1 : ByteArray) (r : Bool) (w : World) (hr_ : Aside0 (r = true)) (h : wardenlaw07_InsnTells.f k a0_0 a0_1 a0_2 a0_3 a0_4 a1 = some r) :
  Calls Try.prog 3 #[.agg #[.int .u8 a0_0, .int .u8 a0_1, .int .u8 a0_2, .int .i16 a0_3, .int .i32 a0_4], .string a1] w fun e w' => e = .returned (.bool r) ∧ Below w.heap.size w w' := by
 have hu24 := Try.underlying24
 have HB := am (Below.refl w.heap.size w)
 have H : (if (a1.size : Int) > 4096 then ((wardenlaw07_alive.f k).bind fun t331 => (some t331)) else ((insn_Decode.f k a1).bind fun bt332 => ((wardenref07_Decode.f k a1).bind fun bt339 => (if (bt332.1 == bt339.1 && (bt332.2.1 == bt339.2.1 && (bt332.2.2.1 == bt339.2.2.1 && (bt332.2.2.2.1 == bt339.2.2.2.1 && (bt332.2.2.2.2.1 == bt339.2.2.2.2.1))))) = true then (if bt332.2.2.2.2.2 = bt339.2.2.2.2.2 then ((insn_Encode.f k a0_0 a0_1 a0_2 a0_3 a0_4).bind fun t346 => ((wardenref07_Encode.f k a0_0 a0_1 a0_2 a0_3 a0_4).bind fun t347 => (if t346.toList = t347.toList then ((insn_Kind.f k a0_0 a0_1 a0_2 a0_3 a0_4).bind fun t348 => ((wardenref07_Kind.f k a0_0 a0_1 a0_2 a0_3 a0_4).bind fun t349 => (if t348 = t349 then ((insn_Code.f a0_0 a0_1 a0_2 a0_3 a0_4).bind fun t350 => ((wardenref07_Code.f a0_0 a0_1 a0_2 a0_3 a0_4).bind fun t351 => (if t350 = t351 then ((insn_Size.f k a0_0 a0_1 a0_2 a0_3 a0_4).bind fun t352 => ((wardenref07_Size.f k a0_0 a0_1 a0_2 a0_3 a0_4).bind fun t353 => (if t352 = t353 then ((insn_Wide.f k a0_0 a0_1 a0_2 a0_3 a0_4).bind fun t354 => ((wardenref07_Wide.f k a0_0 a0_1 a0_2 a0_3 a0_4).bind fun t355 => (if (t354 == t355) = true then ((wardenlaw07_alive.f k).bind fun t356 => (some t356)) else (some false)))) else (some false)))) else (some false)))) else (some false)))) else (some false)))) else (some false)) else (some false))))) = some r := h
 clear h
 by_cases c3 : (a1.size : Int) > 4096
 ·rw [if_pos c3] at H
  have c3b0 : decide (4096 < (a1.size : Int)) = true := decide_eq_true c3
  have c3b1 : decide (4096 < a1.size) = true := decide_eq_true (by omega)
  clear c3
  replace H := Option.bind_eq_some_iff.mp H
  obtain ⟨t331, A40, H⟩ := H
  try dsimp only at H
  have A4 := am A40
  clear A40
  obtain rfl := Option.some.inj H
  go_enter Try.func3, Try.ntmps3
  go_wp2_with (first | ((with_reducible refine gate_dst (N := 2) rfl ?_); refine box_event ?hg (N := 2) ?hd (cs := #[.int .u8 a0_0, .int .u8 a0_1, .int .u8 a0_2, .int .i16 a0_3, .int .i32 a0_4]) (t := 24) ?hr ?_; (case hd => rfl); (case hg => rfl); (case hr => first | (go_simp; done) | (go_simp; rfl)); intro gb330 hg w5 hbox hb; have n0_ := am (below_step (by repeat (first | exact HB.out | apply pb | apply pa | apply pd)) hb); have n1_ := am (hbox); have n2_ := am ((by rw [hg]; exact (below_size (by repeat (first | exact HB.out | apply pb | apply pa | apply pd))) : w.heap.size ≤ gb330)); have n3_ := am ((by rw [hg]; exact (below_size (by repeat (first | exact HB.out | apply pb | apply pa | apply pd))) : w.heap.size ≤ gb330)); clear HB; have HB := n0_; have BK330 := n1_; have GW330 := n2_; have GE330 := n3_; clear n0_ n1_ n2_ n3_; clear hb hbox hg) | ((with_reducible refine gate_callee (f := 14) rfl ?_); refine goesL_ (some 12) rfl rfl Try.func14 (by kernel_rfl) rfl #[] rfl (by (try simp only [List.map_toArray, List.map_cons, List.map_nil]); first | done | rfl) ?_; (with_reducible refine (wardenlaw07_alive.calls k t331 _ hr_ A4.out).mono ?_); rintro e w6 ⟨rfl, hb⟩; refine ⟨_, rfl, ?_⟩; have n0_ := am (blk_below (g := gb330) (o := .cells #[.int .u8 a0_0, .int .u8 a0_1, .int .u8 a0_2, .int .i16 a0_3, .int .i32 a0_4] 24 (0, 0)) (by first | exact BK330.out | exact blk_drewN BK330.out _) hb); have n1_ := am (below_step (by repeat (first | exact HB.out | apply pb | apply pa | apply pd | refine below_set ?_ GE330.out)) hb); clear BK330; clear HB; have BK330 := n0_; have HB := n1_; clear n0_ n1_; (try clear hb); (try clear hb2); (try clear hk); (try clear hi)))
  go_ret
  exact ⟨by first | rfl | (simp [errW_none, errW_some] <;> rfl) | (simp [*, errW_none, errW_some] <;> rfl), by repeat (first | (with_reducible first | exact HB.out | apply below_alloc | apply pw_below_drewN | apply below_drew1 | refine below_set ?_ GE330.out) | exact HB.out)⟩
 ·rw [if_neg c3] at H
  have c3b0 : decide (4096 < (a1.size : Int)) = false := decide_eq_false c3
  have c3b1 : decide (4096 < a1.size) = false := decide_eq_false (by omega)
  clear c3
  replace H := Option.bind_eq_some_iff.mp H
  obtain ⟨⟨t332, t333, t334, t335, t336, t337⟩, A70, H⟩ := H
  try dsimp only at H
  have A7 := am A70
  clear A70
  replace H := Option.bind_eq_some_iff.mp H
  obtain ⟨⟨t339, t340, t341, t342, t343, t344⟩, A80, H⟩ := H
  try dsimp only at H
  have A8 := am A80
  clear A80
  by_cases c9 : (t332 == t339 && (t333 == t340 && (t334 == t341 && (t335 == t342 && (t336 == t343))))) = true
  ·rw [if_pos c9] at H
   have c9b0 : (t332 == t339 && (t333 == t340 && (t334 == t341 && (t335 == t342 && (t336 == t343))))) = true := c9
   (try (have c9b1 : decide (t332 = t339 && (t333 == t340 && (t334 == t341 && (t335 == t342 && (t336 == t343))))) = true := by simpa using c9))
   (try (have c9b2 : (t332 == t339 && (t333 == t340 && (t334 == t341 && (t335 == t342 && (t336 == t343))))) = true := by simpa using c9))
   clear c9
   by_cases c10 : t337 = t344
   ·rw [if_pos c10] at H
    have c10b0 : (t337 == t344) = true := beq_iff_eq.mpr c10
    have c10b1 : (t337 != t344) = false := bne_eq_false_iff_eq.mpr c10
    clear c10
    replace H := Option.bind_eq_some_iff.mp H
    obtain ⟨t346, A110, H⟩ := H
    try dsimp only at H
    have A11 := am A110
    clear A110
    replace H := Option.bind_eq_some_iff.mp H
    obtain ⟨t347, A120, H⟩ := H
    try dsimp only at H
    have A12 := am A120
    clear A120
    by_cases c13 : t346.toList = t347.toList
    ·rw [if_pos c13] at H
     have c13b0 : (t346.toList == t347.toList) = true := beq_iff_eq.mpr c13
     have c13b1 : (t346.toList != t347.toList) = false := bne_eq_false_iff_eq.mpr c13
     clear c13
     replace H := Option.bind_eq_some_iff.mp H
     obtain ⟨t348, A140, H⟩ := H
     try dsimp only at H
     have A14 := am A140
     clear A140
     replace H := Option.bind_eq_some_iff.mp H
     obtain ⟨t349, A150, H⟩ := H
     try dsimp only at H
     have A15 := am A150
     clear A150
     by_cases c16 : t348 = t349
     ·rw [if_pos c16] at H
      have c16b0 : (t348 == t349) = true := beq_iff_eq.mpr c16
      have c16b1 : (t348 != t349) = false := bne_eq_false_iff_eq.mpr c16
      clear c16
      replace H := Option.bind_eq_some_iff.mp H
      obtain ⟨t350, A170, H⟩ := H
      try dsimp only at H
      have A17 := am A170
      clear A170
      replace H := Option.bind_eq_some_iff.mp H
      obtain ⟨t351, A180, H⟩ := H
      try dsimp only at H
      have A18 := am A180
      clear A180
      by_cases c19 : t350 = t351
      ·rw [if_pos c19] at H
       have c19b0 : (t350 == t351) = true := beq_iff_eq.mpr c19
       have c19b1 : (t350 != t351) = false := bne_eq_false_iff_eq.mpr c19
       clear c19
       replace H := Option.bind_eq_some_iff.mp H
       obtain ⟨t352, A200, H⟩ := H
       try dsimp only at H
       have A20 := am A200
       clear A200
       replace H := Option.bind_eq_some_iff.mp H
       obtain ⟨t353, A210, H⟩ := H
       try dsimp only at H
       have A21 := am A210
       clear A210
       by_cases c22 : t352 = t353
       ·rw [if_pos c22] at H
        have c22b0 : (t352 == t353) = true := beq_iff_eq.mpr c22
        have c22b1 : (t352 != t353) = false := bne_eq_false_iff_eq.mpr c22
        clear c22
        replace H := Option.bind_eq_some_iff.mp H
        obtain ⟨t354, A230, H⟩ := H
        try dsimp only at H
        have A23 := am A230
        clear A230
        replace H := Option.bind_eq_some_iff.mp H
        obtain ⟨t355, A240, H⟩ := H
        try dsimp only at H
        have A24 := am A240
        clear A240
        by_cases c25 : (t354 == t355) = true
        ·rw [if_pos c25] at H
         have c25b0 : (t354 == t355) = true := c25
         (try (have c25b1 : decide (t354 = t355) = true := by simpa using c25))
         (try (have c25b2 : (t354 == t355) = true := by simpa using c25))
         clear c25
         replace H := Option.bind_eq_some_iff.mp H
         obtain ⟨t356, A260, H⟩ := H
         try dsimp only at H
         have A26 := am A260
         clear A260
         obtain rfl := Option.some.inj H
         go_enter Try.func3, Try.ntmps3
         try go_wp2_with (first | ((with_reducible refine gate_dst (N := 2) rfl ?_); refine box_event ?hg (N := 2) ?hd (cs := #[.int .u8 a0_0, .int .u8 a0_1, .int .u8 a0_2, .int .i16 a0_3, .int .i32 a0_4]) (t := 24) ?hr ?_; (case hd => rfl); (case hg => rfl); (case hr => first | (go_simp; done) | (go_simp; rfl)); intro gb330 hg w27 hbox hb; have n0_ := am (below_step (by repeat (first | exact HB.out | apply pb | apply pa | apply pd)) hb); have n1_ := am (hbox); have n2_ := am ((by rw [hg]; exact (below_size (by repeat (first | exact HB.out | apply pb | apply pa | apply pd))) : w.heap.size ≤ gb330)); have n3_ := am ((by rw [hg]; exact (below_size (by repeat (first | exact HB.out | apply pb | apply pa | apply pd))) : w.heap.size ≤ gb330)); clear HB; have HB := n0_; have BK330 := n1_; have GW330 := n2_; have GE330 := n3_; clear n0_ n1_ n2_ n3_; clear hb hbox hg) | ((with_reducible refine gate_callee (f := 15) rfl ?_); refine goesL_ (some 15) rfl rfl Try.func15 (by kernel_rfl) rfl #[.string a1] rfl (by (try simp only [List.map_toArray, List.map_cons, List.map_nil]); first | done | rfl) ?_; (with_reducible refine (insn_Decode.calls k a1 t332 t333 t334 t335 t336 t337 _ A7.out).mono ?_); rintro e w28 ⟨rfl, hb⟩; refine ⟨_, rfl, ?_⟩; have n0_ := am (blk_below (g := gb330) (o := .cells #[.int .u8 a0_0, .int .u8 a0_1, .int .u8 a0_2, .int .i16 a0_3, .int .i32 a0_4] 24 (0, 0)) (by first | exact BK330.out | exact blk_drewN BK330.out _) hb); have n1_ := am (below_step (by repeat (first | exact HB.out | apply pb | apply pa | apply pd | refine below_set ?_ GE330.out)) hb); clear BK330; clear HB; have BK330 := n0_; have HB := n1_; clear n0_ n1_; (try clear hb); (try clear hb2); (try clear hk); (try clear hi)) | ((with_reducible refine gate_dst (N := 5) rfl ?_); refine box_event ?hg (N := 5) ?hd (cs := #[.int .u8 0, .int .u8 0, .int .u8 0, .int .i16 0, .int .i32 0]) (t := 24) ?hr ?_; (case hd => rfl); (case hg => rfl); (case hr => first | (go_simp; done) | (go_simp; rfl)); intro gb338 hg w29 hbox hb; have n0_ := am (blk_below (g := gb330) (o := .cells #[.int .u8 a0_0, .int .u8 a0_1, .int .u8 a0_2, .int .i16 a0_3, .int .i32 a0_4] 24 (0, 0)) (by first | exact BK330.out | exact blk_drewN BK330.out _) hb); have n1_ := am (below_step (by repeat (first | exact HB.out | apply pb | apply pa | apply pd | refine below_set ?_ GE330.out)) hb); have n2_ := am (hbox); have n3_ := am ((by rw [hg]; exact (below_size (by repeat (first | exact HB.out | apply pb | apply pa | apply pd | refine below_set ?_ GE330.out))) : w.heap.size ≤ gb338)); have n4_ := am ((by rw [hg]; exact (below_size (by repeat (first | exact HB.out | apply pb | apply pa | apply pd | refine below_set ?_ GE330.out))) : w.heap.size ≤ gb338)); have n5_ := am ((by rw [hg]; exact Nat.ne_of_lt (blk_lt (g := gb330) (o := .cells #[.int .u8 a0_0, .int .u8 a0_1, .int .u8 a0_2, .int .i16 a0_3, .int .i32 a0_4] 24 (0, 0)) (by first | exact BK330.out | exact blk_drewN BK330.out _)) : gb330 ≠ gb338)); have n6_ := am ((by rw [hg]; exact Nat.ne_of_gt (blk_lt (g := gb330) (o := .cells #[.int .u8 a0_0, .int .u8 a0_1, .int .u8 a0_2, .int .i16 a0_3, .int .i32 a0_4] 24 (0, 0)) (by first | exact BK330.out | exact blk_drewN BK330.out _)) : gb338 ≠ gb330)); clear BK330; clear HB; have BK330 := n0_; have HB := n1_; have BK338 := n2_; have GW338 := n3_; have GE338 := n4_; have NB330_338 := n5_; have NB338_330 := n6_; clear n0_ n1_ n2_ n3_ n4_ n5_ n6_; clear hb hbox hg; have hnb30 := NB338_330.out; have hnc30 := NB330_338.out; have hcz31_0 : w29.cell? ⟨gb338, 0, none⟩ = some (.int .u8 0) := (blk_cell BK338.out 0).trans rfl; have hcz31_1 : w29.cell? ⟨gb338, 1, none⟩ = some (.int .u8 0) := (blk_cell BK338.out 1).trans rfl; have hcz31_2 : w29.cell? ⟨gb338, 2, none⟩ = some (.int .u8 0) := (blk_cell BK338.out 2).trans rfl; have hcz31_3 : w29.cell? ⟨gb338, 3, none⟩ = some (.int .i16 0) := (blk_cell BK338.out 3).trans rfl; have hcz31_4 : w29.cell? ⟨gb338, 4, none⟩ = some (.int .i32 0) := (blk_cell BK338.out 4).trans rfl; have hfz31_0 := blk_frozen BK338.out 0; have hfz31_1 := blk_frozen BK338.out 1; have hfz31_2 := blk_frozen BK338.out 2; have hfz31_3 := blk_frozen BK338.out 3; have hfz31_4 := blk_frozen BK338.out 4) | ((with_reducible refine gate_callee (f := 16) rfl ?_); refine goesL_ (some 20) rfl rfl Try.func16 (by kernel_rfl) rfl #[.string a1] rfl (by (try simp only [List.map_toArray, List.map_cons, List.map_nil]); first | done | rfl) ?_; (with_reducible refine (wardenref07_Decode.calls k a1 t339 t340 t341 t342 t343 t344 _ A8.out).mono ?_); rintro e w32 ⟨rfl, hb⟩; refine ⟨_, rfl, ?_⟩; have n0_ := am (blk_below (g := gb330) (o := .cells #[.int .u8 a0_0, .int .u8 a0_1, .int .u8 a0_2, .int .i16 a0_3, .int .i32 a0_4] 24 (0, 0)) (by (with_reducible repeat (first | refine blk_drewN ?_ _ | refine blk_drew ?_ | refine blk_alloc ?_ _)); refine blk_far ?_ NB330_338.out _; (with_reducible repeat (first | refine blk_drewN ?_ _ | refine blk_drew ?_ | refine blk_alloc ?_ _)); refine blk_far ?_ NB330_338.out _; (with_reducible repeat (first | refine blk_drewN ?_ _ | refine blk_drew ?_ | refine blk_alloc ?_ _)); refine blk_far ?_ NB330_338.out _; (with_reducible repeat (first | refine blk_drewN ?_ _ | refine blk_drew ?_ | refine blk_alloc ?_ _)); refine blk_far ?_ NB330_338.out _; (with_reducible repeat (first | refine blk_drewN ?_ _ | refine blk_drew ?_ | refine blk_alloc ?_ _)); refine blk_far ?_ NB330_338.out _; (with_reducible repeat (first | refine blk_drewN ?_ _ | refine blk_drew ?_ | refine blk_alloc ?_ _)); exact BK330.out) hb); have n1_ := am (blk_below (g := gb338) (o := .cells #[.int .u8 t332, .int .u8 t333, .int .u8 t334, .int .i16 t335, .int .i32 t336] 24 (0, 0)) (by (with_reducible repeat (first | refine blk_drewN ?_ _ | refine blk_drew ?_ | refine blk_alloc ?_ _)); refine blk_put (cs := #[.int .u8 t332, .int .u8 t333, .int .u8 t334, .int .i16 t335, .int .i32 0]) ?_ 4 _ rfl; (with_reducible repeat (first | refine blk_drewN ?_ _ | refine blk_drew ?_ | refine blk_alloc ?_ _)); refine blk_put (cs := #[.int .u8 t332, .int .u8 t333, .int .u8 t334, .int .i16 0, .int .i32 0]) ?_ 3 _ rfl; (with_reducible repeat (first | refine blk_drewN ?_ _ | refine blk_drew ?_ | refine blk_alloc ?_ _)); refine blk_put (cs := #[.int .u8 t332, .int .u8 t333, .int .u8 0, .int .i16 0, .int .i32 0]) ?_ 2 _ rfl; (with_reducible repeat (first | refine blk_drewN ?_ _ | refine blk_drew ?_ | refine blk_alloc ?_ _)); refine blk_put (cs := #[.int .u8 t332, .int .u8 0, .int .u8 0, .int .i16 0, .int .i32 0]) ?_ 1 _ rfl; (with_reducible repeat (first | refine blk_drewN ?_ _ | refine blk_drew ?_ | refine blk_alloc ?_ _)); refine blk_put (cs := #[.int .u8 0, .int .u8 0, .int .u8 0, .int .i16 0, .int .i32 0]) ?_ 0 _ rfl; (with_reducible repeat (first | refine blk_drewN ?_ _ | refine blk_drew ?_ | refine blk_alloc ?_ _)); exact BK338.out) hb); have n2_ := am (below_step (by repeat (first | exact HB.out | apply pb | apply pa | apply pd | refine below_set ?_ GE330.out | refine below_set ?_ GE338.out)) hb); clear BK330; clear BK338; clear HB; have BK330 := n0_; have BK338 := n1_; have HB := n2_; clear n0_ n1_ n2_; (try clear hb); (try clear hb2); (try clear hk); (try clear hi)) | ((with_reducible refine gate_dst (N := 7) rfl ?_); refine box_event ?hg (N := 7) ?hd (cs := #[.int .u8 0, .int .u8 0, .int .u8 0, .int .i16 0, .int .i32 0]) (t := 24) ?hr ?_; (case hd => rfl); (case hg => rfl); (case hr => first | (go_simp; done) | (go_simp; rfl)); intro gb345 hg w33 hbox hb; have n0_ := am (blk_below (g := gb330) (o := .cells #[.int .u8 a0_0, .int .u8 a0_1, .int .u8 a0_2, .int .i16 a0_3, .int .i32 a0_4] 24 (0, 0)) (by first | exact BK330.out | exact blk_drewN BK330.out _) hb); have n1_ := am (blk_below (g := gb338) (o := .cells #[.int .u8 t332, .int .u8 t333, .int .u8 t334, .int .i16 t335, .int .i32 t336] 24 (0, 0)) (by first | exact BK338.out | exact blk_drewN BK338.out _) hb); have n2_ := am (below_step (by repeat (first | exact HB.out | apply pb | apply pa | apply pd | refine below_set ?_ GE330.out | refine below_set ?_ GE338.out)) hb); have n3_ := am (hbox); have n4_ := am ((by rw [hg]; exact (below_size (by repeat (first | exact HB.out | apply pb | apply pa | apply pd | refine below_set ?_ GE330.out | refine below_set ?_ GE338.out))) : w.heap.size ≤ gb345)); have n5_ := am ((by rw [hg]; exact (below_size (by repeat (first | exact HB.out | apply pb | apply pa | apply pd | refine below_set ?_ GE330.out | refine below_set ?_ GE338.out))) : w.heap.size ≤ gb345)); have n6_ := am ((by rw [hg]; exact Nat.ne_of_lt (blk_lt (g := gb330) (o := .cells #[.int .u8 a0_0, .int .u8 a0_1, .int .u8 a0_2, .int .i16 a0_3, .int .i32 a0_4] 24 (0, 0)) (by first | exact BK330.out | exact blk_drewN BK330.out _)) : gb330 ≠ gb345)); have n7_ := am ((by rw [hg]; exact Nat.ne_of_gt (blk_lt (g := gb330) (o := .cells #[.int .u8 a0_0, .int .u8 a0_1, .int .u8 a0_2, .int .i16 a0_3, .int .i32 a0_4] 24 (0, 0)) (by first | exact BK330.out | exact blk_drewN BK330.out _)) : gb345 ≠ gb330)); have n8_ := am ((by rw [hg]; exact Nat.ne_of_lt (blk_lt (g := gb338) (o := .cells #[.int .u8 t332, .int .u8 t333, .int .u8 t334, .int .i16 t335, .int .i32 t336] 24 (0, 0)) (by first | exact BK338.out | exact blk_drewN BK338.out _)) : gb338 ≠ gb345)); have n9_ := am ((by rw [hg]; exact Nat.ne_of_gt (blk_lt (g := gb338) (o := .cells #[.int .u8 t332, .int .u8 t333, .int .u8 t334, .int .i16 t335, .int .i32 t336] 24 (0, 0)) (by first | exact BK338.out | exact blk_drewN BK338.out _)) : gb345 ≠ gb338)); clear BK330; clear BK338; clear HB; have BK330 := n0_; have BK338 := n1_; have HB := n2_; have BK345 := n3_; have GW345 := n4_; have GE345 := n5_; have NB330_345 := n6_; have NB345_330 := n7_; have NB338_345 := n8_; have NB345_338 := n9_; clear n0_ n1_ n2_ n3_ n4_ n5_ n6_ n7_ n8_ n9_; clear hb hbox hg; have hnb34 := NB345_330.out; have hnc34 := NB330_345.out; have hnb35 := NB345_338.out; have hnc35 := NB338_345.out; have hcz36_0 : w33.cell? ⟨gb345, 0, none⟩ = some (.int .u8 0) := (blk_cell BK345.out 0).trans rfl; have hcz36_1 : w33.cell? ⟨gb345, 1, none⟩ = some (.int .u8 0) := (blk_cell BK345.out 1).trans rfl; have hcz36_2 : w33.cell? ⟨gb345, 2, none⟩ = some (.int .u8 0) := (blk_cell BK345.out 2).trans rfl; have hcz36_3 : w33.cell? ⟨gb345, 3, none⟩ = some (.int .i16 0) := (blk_cell BK345.out 3).trans rfl; have hcz36_4 : w33.cell? ⟨gb345, 4, none⟩ = some (.int .i32 0) := (blk_cell BK345.out 4).trans rfl; have hfz36_0 := blk_frozen BK345.out 0; have hfz36_1 := blk_frozen BK345.out 1; have hfz36_2 := blk_frozen BK345.out 2; have hfz36_3 := blk_frozen BK345.out 3; have hfz36_4 := blk_frozen BK345.out 4))
         have n0_ : Aside0 ((((((w33.setCell ⟨gb345, 0, none⟩ (.int .u8 t339)).setCell ⟨gb345, 1, none⟩ (.int .u8 t340)).setCell ⟨gb345, 2, none⟩ (.int .u8 t341)).setCell ⟨gb345, 3, none⟩ (.int .i16 t342)).setCell ⟨gb345, 4, none⟩ (.int .i32 t343)).heap[gb330]? = some (.cells #[.int .u8 a0_0, .int .u8 a0_1, .int .u8 a0_2, .int .i16 a0_3, .int .i32 a0_4] 24 (0, 0))) := ⟨by (with_reducible repeat (first | refine blk_drewN ?_ _ | refine blk_drew ?_ | refine blk_alloc ?_ _)); refine blk_far ?_ NB330_345.out _; (with_reducible repeat (first | refine blk_drewN ?_ _ | refine blk_drew ?_ | refine blk_alloc ?_ _)); refine blk_far ?_ NB330_345.out _; (with_reducible repeat (first | refine blk_drewN ?_ _ | refine blk_drew ?_ | refine blk_alloc ?_ _)); refine blk_far ?_ NB330_345.out _; (with_reducible repeat (first | refine blk_drewN ?_ _ | refine blk_drew ?_ | refine blk_alloc ?_ _)); refine blk_far ?_ NB330_345.out _; (with_reducible repeat (first | refine blk_drewN ?_ _ | refine blk_drew ?_ | refine blk_alloc ?_ _)); refine blk_far ?_ NB330_345.out _; (with_reducible repeat (first | refine blk_drewN ?_ _ | refine blk_drew ?_ | refine blk_alloc ?_ _)); exact BK330.out⟩
         have n1_ : Aside0 ((((((w33.setCell ⟨gb345, 0, none⟩ (.int .u8 t339)).setCell ⟨gb345, 1, none⟩ (.int .u8 t340)).setCell ⟨gb345, 2, none⟩ (.int .u8 t341)).setCell ⟨gb345, 3, none⟩ (.int .i16 t342)).setCell ⟨gb345, 4, none⟩ (.int .i32 t343)).heap[gb338]? = some (.cells #[.int .u8 t332, .int .u8 t333, .int .u8 t334, .int .i16 t335, .int .i32 t336] 24 (0, 0))) := ⟨by (with_reducible repeat (first | refine blk_drewN ?_ _ | refine blk_drew ?_ | refine blk_alloc ?_ _)); refine blk_far ?_ NB338_345.out _; (with_reducible repeat (first | refine blk_drewN ?_ _ | refine blk_drew ?_ | refine blk_alloc ?_ _)); refine blk_far ?_ NB338_345.out _; (with_reducible repeat (first | refine blk_drewN ?_ _ | refine blk_drew ?_ | refine blk_alloc ?_ _)); refine blk_far ?_ NB338_345.out _; (with_reducible repeat (first | refine blk_drewN ?_ _ | refine blk_drew ?_ | refine blk_alloc ?_ _)); refine blk_far ?_ NB338_345.out _; (with_reducible repeat (first | refine blk_drewN ?_ _ | refine blk_drew ?_ | refine blk_alloc ?_ _)); refine blk_far ?_ NB338_345.out _; (with_reducible repeat (first | refine blk_drewN ?_ _ | refine blk_drew ?_ | refine blk_alloc ?_ _)); exact BK338.out⟩
         have n2_ : Aside0 ((((((w33.setCell ⟨gb345, 0, none⟩ (.int .u8 t339)).setCell ⟨gb345, 1, none⟩ (.int .u8 t340)).setCell ⟨gb345, 2, none⟩ (.int .u8 t341)).setCell ⟨gb345, 3, none⟩ (.int .i16 t342)).setCell ⟨gb345, 4, none⟩ (.int .i32 t343)).heap[gb345]? = some (.cells #[.int .u8 t339, .int .u8 t340, .int .u8 t341, .int .i16 t342, .int .i32 t343] 24 (0, 0))) := ⟨by (with_reducible repeat (first | refine blk_drewN ?_ _ | refine blk_drew ?_ | refine blk_alloc ?_ _)); refine blk_put (cs := #[.int .u8 t339, .int .u8 t340, .int .u8 t341, .int .i16 t342, .int .i32 0]) ?_ 4 _ rfl; (with_reducible repeat (first | refine blk_drewN ?_ _ | refine blk_drew ?_ | refine blk_alloc ?_ _)); refine blk_put (cs := #[.int .u8 t339, .int .u8 t340, .int .u8 t341, .int .i16 0, .int .i32 0]) ?_ 3 _ rfl; (with_reducible repeat (first | refine blk_drewN ?_ _ | refine blk_drew ?_ | refine blk_alloc ?_ _)); refine blk_put (cs := #[.int .u8 t339, .int .u8 t340, .int .u8 0, .int .i16 0, .int .i32 0]) ?_ 2 _ rfl; (with_reducible repeat (first | refine blk_drewN ?_ _ | refine blk_drew ?_ | refine blk_alloc ?_ _)); refine blk_put (cs := #[.int .u8 t339, .int .u8 0, .int .u8 0, .int .i16 0, .int .i32 0]) ?_ 1 _ rfl; (with_reducible repeat (first | refine blk_drewN ?_ _ | refine blk_drew ?_ | refine blk_alloc ?_ _)); refine blk_put (cs := #[.int .u8 0, .int .u8 0, .int .u8 0, .int .i16 0, .int .i32 0]) ?_ 0 _ rfl; (with_reducible repeat (first | refine blk_drewN ?_ _ | refine blk_drew ?_ | refine blk_alloc ?_ _)); exact BK345.out⟩
         have n3_ : Aside0 (Below w.heap.size w (((((w33.setCell ⟨gb345, 0, none⟩ (.int .u8 t339)).setCell ⟨gb345, 1, none⟩ (.int .u8 t340)).setCell ⟨gb345, 2, none⟩ (.int .u8 t341)).setCell ⟨gb345, 3, none⟩ (.int .i16 t342)).setCell ⟨gb345, 4, none⟩ (.int .i32 t343))) := ⟨by repeat (first | (with_reducible first | exact HB.out | apply below_alloc | apply pw_below_drewN | apply below_drew1 | refine below_set ?_ GE330.out | refine below_set ?_ GE338.out | refine below_set ?_ GE345.out) | exact HB.out)⟩
         (try clear BK330)
         (try clear BK338)
         (try clear BK345)
         (try clear HB)
         generalize (((((w33.setCell ⟨gb345, 0, none⟩ (.int .u8 t339)).setCell ⟨gb345, 1, none⟩ (.int .u8 t340)).setCell ⟨gb345, 2, none⟩ (.int .u8 t341)).setCell ⟨gb345, 3, none⟩ (.int .i16 t342)).setCell ⟨gb345, 4, none⟩ (.int .i32 t343)) = w37 at n0_ n1_ n2_ n3_ ⊢
         have BK330 := n0_
         have BK338 := n1_
         have BK345 := n2_
         have HB := n3_
         clear n0_ n1_ n2_ n3_
         have n0_ := am (blk_drew BK330.out)
         have n1_ := am (blk_drew BK338.out)
         have n2_ := am (blk_drew BK345.out)
         have n3_ := am (below_drew1 HB.out)
         clear BK330
         clear BK338
         clear BK345
         clear HB
         have BK330 := n0_
         have BK338 := n1_
         have BK345 := n2_
         have HB := n3_
         clear n0_ n1_ n2_ n3_
         refine start_ (n := 47) (S := fun w' => w'.cell? ⟨gb338, 0, none⟩ = some (.int .u8 t332) ∧ w'.cell? ⟨gb338, 1, none⟩ = some (.int .u8 t333) ∧ w'.cell? ⟨gb338, 2, none⟩ = some (.int .u8 t334) ∧ w'.cell? ⟨gb338, 3, none⟩ = some (.int .i16 t335) ∧ w'.cell? ⟨gb338, 4, none⟩ = some (.int .i32 t336) ∧ w'.cell? ⟨gb345, 0, none⟩ = some (.int .u8 t339) ∧ w'.cell? ⟨gb345, 1, none⟩ = some (.int .u8 t340) ∧ w'.cell? ⟨gb345, 2, none⟩ = some (.int .u8 t341) ∧ w'.cell? ⟨gb345, 3, none⟩ = some (.int .i16 t342) ∧ w'.cell? ⟨gb345, 4, none⟩ = some (.int .i32 t343) ∧ w'.cell? ⟨gb330, 0, none⟩ = some (.int .u8 a0_0) ∧ w'.cell? ⟨gb330, 1, none⟩ = some (.int .u8 a0_1) ∧ w'.cell? ⟨gb330, 2, none⟩ = some (.int .u8 a0_2) ∧ w'.cell? ⟨gb330, 3, none⟩ = some (.int .i16 a0_3) ∧ w'.cell? ⟨gb330, 4, none⟩ = some (.int .i32 a0_4)) (ds := []) (ar 47 0) (by kernel_rfl) rfl rfl ⟨(blk_cell BK338.out 0).trans rfl, (blk_cell BK338.out 1).trans rfl, (blk_cell BK338.out 2).trans rfl, (blk_cell BK338.out 3).trans rfl, (blk_cell BK338.out 4).trans rfl, (blk_cell BK345.out 0).trans rfl, (blk_cell BK345.out 1).trans rfl, (blk_cell BK345.out 2).trans rfl, (blk_cell BK345.out 3).trans rfl, (blk_cell BK345.out 4).trans rfl, (blk_cell BK330.out 0).trans rfl, (blk_cell BK330.out 1).trans rfl, (blk_cell BK330.out 2).trans rfl, (blk_cell BK330.out 3).trans rfl, (blk_cell BK330.out 4).trans rfl⟩ (fun hHeld => ?_); refine with_tabW wardenlaw07_InsnTells.tab5 wardenlaw07_InsnTells.bits5 (fun HT_ HW_ => ?_)
         generalize w37.drew = w38 at BK330 BK338 BK345 HB hHeld ⊢
         refine take_ (i := 0) (N := some 23) (v := ?_) (a' := ?_) (ar 47 1) rfl rfl (take_ofW HT_.out HW_.out (by kernel_rfl)) (fun _ _ _ h => h) (Or.inl ⟨by rfl, ?_⟩) hHeld ?_ ?_
         rotate_left
         ·rintro w' ⟨s0, s1, s2, s3, s4, s5, s6, s7, s8, s9, s10, s11, s12, s13, s14⟩
          go_simp
          with_reducible rfl
         rotate_left
         ·simp only [Act.put, q1, q2, q3, i64_w, i32_w]
          rfl
         refine take_ (i := 1) (N := some 24) (v := ?_) (a' := ?_) (ar 47 3) rfl rfl (take_ofW HT_.out HW_.out (by kernel_rfl)) (fun _ _ _ h => h) (Or.inl ⟨by rfl, ?_⟩) hHeld ?_ ?_
         rotate_left
         ·rintro w' ⟨s0, s1, s2, s3, s4, s5, s6, s7, s8, s9, s10, s11, s12, s13, s14⟩
          go_simp
          with_reducible rfl
         rotate_left
         ·simp only [Act.put, q1, q2, q3, i64_w, i32_w]
          rfl
         refine pure_ (i := 2) (N := some 25) (v := ?_) (a' := ?_) (ar 47 7) rfl rfl (any_of HT_.out (by kernel_rfl)) (fun _ _ _ h => h) (Or.inl ⟨by rfl, ?_⟩) ?_ ?_
         rotate_left
         ·intro w'
          go_simp
          with_reducible rfl
         rotate_left
         ·simp only [Act.put, q1, q2, q3, i64_w, i32_w]
          rfl
         refine pure_ (i := 3) (N := some 26) (v := ?_) (a' := ?_) (ar 47 15) rfl rfl (any_of HT_.out (by kernel_rfl)) (fun _ _ _ h => h) (Or.inl ⟨by rfl, ?_⟩) ?_ ?_
         rotate_left
         ·intro w'
          go_simp
          with_reducible rfl
         rotate_left
         ·simp only [Act.put, q1, q2, q3, i64_w, i32_w]
          rfl
         refine pure_ (i := 4) (N := some 27) (v := ?_) (a' := ?_) (ar 47 31) rfl rfl (any_of HT_.out (by kernel_rfl)) (fun _ _ _ h => h) (Or.inl ⟨by rfl, ?_⟩) ?_ ?_
         rotate_left
         ·intro w'
          go_simp
          with_reducible rfl
         rotate_left
         ·simp only [Act.put, q1, q2, q3, i64_w, i32_w]
          rfl
         refine pure_ (i := 5) (N := some 28) (v := ?_) (a' := ?_) (ar 47 63) rfl rfl (any_of HT_.out (by kernel_rfl)) (fun _ _ _ h => h) (Or.inl ⟨by rfl, ?_⟩) ?_ ?_
         rotate_left
         ·intro w'
          go_simp
          with_reducible rfl
         rotate_left
         ·simp only [Act.put, q1, q2, q3, i64_w, i32_w]
          rfl
         refine pure_ (i := 6) (N := some 29) (v := ?_) (a' := ?_) (ar 47 127) rfl rfl (any_of HT_.out (by kernel_rfl)) (fun _ _ _ h => h) (Or.inl ⟨by rfl, ?_⟩) ?_ ?_
         rotate_left
         ·intro w'
          go_simp
          with_reducible rfl
         rotate_left
         ·simp only [Act.put, q1, q2, q3, i64_w, i32_w]
          rfl
         refine pure_ (i := 7) (N := some 30) (v := ?_) (a' := ?_) (ar 47 255) rfl rfl (any_of HT_.out (by kernel_rfl)) (fun _ _ _ h => h) (Or.inl ⟨by rfl, ?_⟩) ?_ ?_
         rotate_left
         ·intro w'
          go_simp
          with_reducible rfl
         rotate_left
         ·simp only [Act.put, q1, q2, q3, i64_w, i32_w]
          rfl
         refine pure_ (i := 8) (N := some 31) (v := ?_) (a' := ?_) (ar 47 511) rfl rfl (any_of HT_.out (by kernel_rfl)) (fun _ _ _ h => h) (Or.inl ⟨by rfl, ?_⟩) ?_ ?_
         rotate_left
         ·intro w'
          go_simp
          with_reducible rfl
         rotate_left
         ·simp only [Act.put, q1, q2, q3, i64_w, i32_w]
          rfl
         refine take_ (i := 9) (N := some 32) (v := ?_) (a' := ?_) (ar 47 1023) rfl rfl (take_ofW HT_.out HW_.out (by kernel_rfl)) (fun _ _ _ h => h) (Or.inl ⟨by rfl, ?_⟩) hHeld ?_ ?_
         rotate_left
         ·rintro w' ⟨s0, s1, s2, s3, s4, s5, s6, s7, s8, s9, s10, s11, s12, s13, s14⟩
          go_simp
          with_reducible rfl
         rotate_left
         ·simp only [Act.put, q1, q2, q3, i64_w, i32_w]
          rfl
         refine take_ (i := 11) (N := some 34) (v := ?_) (a' := ?_) (ar 47 3071) rfl rfl (take_ofW HT_.out HW_.out (by kernel_rfl)) (fun _ _ _ h => h) (Or.inl ⟨by rfl, ?_⟩) hHeld ?_ ?_
         rotate_left
         ·rintro w' ⟨s0, s1, s2, s3, s4, s5, s6, s7, s8, s9, s10, s11, s12, s13, s14⟩
          go_simp
          with_reducible rfl
         rotate_left
         ·simp only [Act.put, q1, q2, q3, i64_w, i32_w]
          rfl
         refine one_ (i := 10) (N := some 33) (ar 47 4095) rfl rfl (one_of HT_.out (by kernel_rfl)) (by decide) (fun K hK => ?_)
         refine goes_ Try.func17 (by kernel_rfl) rfl #[.agg #[.int .u8 a0_0, .int .u8 a0_1, .int .u8 a0_2, .int .i16 a0_3, .int .i32 a0_4]] (by rfl) rfl rfl (by (try simp only [List.map_toArray, List.map_cons, List.map_nil]); first | done | rfl) ?_
         with_reducible refine (insn_Encode.calls k a0_0 a0_1 a0_2 a0_3 a0_4 t346 _ A11.out).mono ?_
         rintro e w39 ⟨rfl, hb⟩
         refine ⟨_, rfl, ?_⟩
         have n0_ := am (blk_below (g := gb330) (o := .cells #[.int .u8 a0_0, .int .u8 a0_1, .int .u8 a0_2, .int .i16 a0_3, .int .i32 a0_4] 24 (0, 0)) (by first | exact BK330.out | exact blk_drewN BK330.out _) hb)
         have n1_ := am (blk_below (g := gb338) (o := .cells #[.int .u8 t332, .int .u8 t333, .int .u8 t334, .int .i16 t335, .int .i32 t336] 24 (0, 0)) (by first | exact BK338.out | exact blk_drewN BK338.out _) hb)
         have n2_ := am (blk_below (g := gb345) (o := .cells #[.int .u8 t339, .int .u8 t340, .int .u8 t341, .int .i16 t342, .int .i32 t343] 24 (0, 0)) (by first | exact BK345.out | exact blk_drewN BK345.out _) hb)
         have n3_ := am (below_step (by repeat (first | exact HB.out | apply pb | apply pa | apply pd | refine below_set ?_ GE330.out | refine below_set ?_ GE338.out | refine below_set ?_ GE345.out)) hb)
         clear BK330
         clear BK338
         clear BK345
         clear HB
         have BK330 := n0_
         have BK338 := n1_
         have BK345 := n2_
         have HB := n3_
         clear n0_ n1_ n2_ n3_
         (try clear hb)
         (try clear hb2)
         (try clear hk)
         (try clear hi)
         refine hK.out _ _ ⟨(blk_cell BK338.out 0).trans rfl, (blk_cell BK338.out 1).trans rfl, (blk_cell BK338.out 2).trans rfl, (blk_cell BK338.out 3).trans rfl, (blk_cell BK338.out 4).trans rfl, (blk_cell BK345.out 0).trans rfl, (blk_cell BK345.out 1).trans rfl, (blk_cell BK345.out 2).trans rfl, (blk_cell BK345.out 3).trans rfl, (blk_cell BK345.out 4).trans rfl, (blk_cell BK330.out 0).trans rfl, (blk_cell BK330.out 1).trans rfl, (blk_cell BK330.out 2).trans rfl, (blk_cell BK330.out 3).trans rfl, (blk_cell BK330.out 4).trans rfl⟩ (fun hHeld => ?_)
         clear hK K
         refine norm_ (a' := ?_) ?_ ?_
         rotate_left
         ·show Act.put _ (some 33) _ = _
          simp only [Act.put, q1, q2, q3, i64_w, i32_w]
          rfl
         refine one_ (i := 12) (N := some 35) (ar 47 8191) rfl rfl (one_of HT_.out (by kernel_rfl)) (by decide) (fun K hK => ?_)
         refine goes_ Try.func18 (by kernel_rfl) rfl #[.agg #[.int .u8 a0_0, .int .u8 a0_1, .int .u8 a0_2, .int .i16 a0_3, .int .i32 a0_4]] (by rfl) rfl rfl (by (try simp only [List.map_toArray, List.map_cons, List.map_nil]); first | done | rfl) ?_
         with_reducible refine (wardenref07_Encode.calls k a0_0 a0_1 a0_2 a0_3 a0_4 t347 _ A12.out).mono ?_
         rintro e w40 ⟨rfl, hb⟩
         refine ⟨_, rfl, ?_⟩
         have n0_ := am (blk_below (g := gb330) (o := .cells #[.int .u8 a0_0, .int .u8 a0_1, .int .u8 a0_2, .int .i16 a0_3, .int .i32 a0_4] 24 (0, 0)) (by first | exact BK330.out | exact blk_drewN BK330.out _) hb)
         have n1_ := am (blk_below (g := gb338) (o := .cells #[.int .u8 t332, .int .u8 t333, .int .u8 t334, .int .i16 t335, .int .i32 t336] 24 (0, 0)) (by first | exact BK338.out | exact blk_drewN BK338.out _) hb)
         have n2_ := am (blk_below (g := gb345) (o := .cells #[.int .u8 t339, .int .u8 t340, .int .u8 t341, .int .i16 t342, .int .i32 t343] 24 (0, 0)) (by first | exact BK345.out | exact blk_drewN BK345.out _) hb)
         have n3_ := am (below_step (by repeat (first | exact HB.out | apply pb | apply pa | apply pd | refine below_set ?_ GE330.out | refine below_set ?_ GE338.out | refine below_set ?_ GE345.out)) hb)
         clear BK330
         clear BK338
         clear BK345
         clear HB
         have BK330 := n0_
         have BK338 := n1_
         have BK345 := n2_
         have HB := n3_
         clear n0_ n1_ n2_ n3_
         (try clear hb)
         (try clear hb2)
         (try clear hk)
         (try clear hi)
         refine hK.out _ _ ⟨(blk_cell BK338.out 0).trans rfl, (blk_cell BK338.out 1).trans rfl, (blk_cell BK338.out 2).trans rfl, (blk_cell BK338.out 3).trans rfl, (blk_cell BK338.out 4).trans rfl, (blk_cell BK345.out 0).trans rfl, (blk_cell BK345.out 1).trans rfl, (blk_cell BK345.out 2).trans rfl, (blk_cell BK345.out 3).trans rfl, (blk_cell BK345.out 4).trans rfl, (blk_cell BK330.out 0).trans rfl, (blk_cell BK330.out 1).trans rfl, (blk_cell BK330.out 2).trans rfl, (blk_cell BK330.out 3).trans rfl, (blk_cell BK330.out 4).trans rfl⟩ (fun hHeld => ?_)
         clear hK K
         refine norm_ (a' := ?_) ?_ ?_
         rotate_left
         ·show Act.put _ (some 35) _ = _
          simp only [Act.put, q1, q2, q3, i64_w, i32_w]
          rfl
         refine pure_ (i := 13) (N := some 36) (v := ?_) (a' := ?_) (ar 47 16383) rfl rfl (any_of HT_.out (by kernel_rfl)) (fun _ _ _ h => h) (Or.inl ⟨by rfl, ?_⟩) ?_ ?_
         rotate_left
         ·intro w'
          go_simp
          with_reducible rfl
         rotate_left
         ·simp only [Act.put, q1, q2, q3, i64_w, i32_w]
          rfl
         refine pure_ (i := 14) (N := some 37) (v := ?_) (a' := ?_) (ar 47 32767) rfl rfl (any_of HT_.out (by kernel_rfl)) (fun _ _ _ h => h) (Or.inl ⟨by rfl, ?_⟩) ?_ ?_
         rotate_left
         ·intro w'
          go_simp
          with_reducible rfl
         rotate_left
         ·simp only [Act.put, q1, q2, q3, i64_w, i32_w]
          rfl
         refine pure_ (i := 15) (N := some 38) (v := ?_) (a' := ?_) (ar 47 65535) rfl rfl (any_of HT_.out (by kernel_rfl)) (fun _ _ _ h => h) (Or.inl ⟨by rfl, ?_⟩) ?_ ?_
         rotate_left
         ·intro w'
          go_simp
          with_reducible rfl
         rotate_left
         ·simp only [Act.put, q1, q2, q3, i64_w, i32_w]
          rfl
         refine take_ (i := 16) (N := some 39) (v := ?_) (a' := ?_) (ar 47 131071) rfl rfl (take_ofW HT_.out HW_.out (by kernel_rfl)) (fun _ _ _ h => h) (Or.inl ⟨by rfl, ?_⟩) hHeld ?_ ?_
         rotate_left
         ·rintro w' ⟨s0, s1, s2, s3, s4, s5, s6, s7, s8, s9, s10, s11, s12, s13, s14⟩
          go_simp
          with_reducible rfl
         rotate_left
         ·simp only [Act.put, q1, q2, q3, i64_w, i32_w]
          rfl
         refine take_ (i := 18) (N := some 41) (v := ?_) (a' := ?_) (ar 47 393215) rfl rfl (take_ofW HT_.out HW_.out (by kernel_rfl)) (fun _ _ _ h => h) (Or.inl ⟨by rfl, ?_⟩) hHeld ?_ ?_
         rotate_left
         ·rintro w' ⟨s0, s1, s2, s3, s4, s5, s6, s7, s8, s9, s10, s11, s12, s13, s14⟩
          go_simp
          with_reducible rfl
         rotate_left
         ·simp only [Act.put, q1, q2, q3, i64_w, i32_w]
          rfl
         refine one_ (i := 17) (N := some 40) (ar 47 524287) rfl rfl (one_of HT_.out (by kernel_rfl)) (by decide) (fun K hK => ?_)
         refine goes_ Try.func19 (by kernel_rfl) rfl #[.agg #[.int .u8 a0_0, .int .u8 a0_1, .int .u8 a0_2, .int .i16 a0_3, .int .i32 a0_4]] (by rfl) rfl rfl (by (try simp only [List.map_toArray, List.map_cons, List.map_nil]); first | done | rfl) ?_
         with_reducible refine (insn_Kind.calls k a0_0 a0_1 a0_2 a0_3 a0_4 t348 _ A14.out).mono ?_
         rintro e w41 ⟨rfl, hb⟩
         refine ⟨_, rfl, ?_⟩
         have n0_ := am (blk_below (g := gb330) (o := .cells #[.int .u8 a0_0, .int .u8 a0_1, .int .u8 a0_2, .int .i16 a0_3, .int .i32 a0_4] 24 (0, 0)) (by first | exact BK330.out | exact blk_drewN BK330.out _) hb)
         have n1_ := am (blk_below (g := gb338) (o := .cells #[.int .u8 t332, .int .u8 t333, .int .u8 t334, .int .i16 t335, .int .i32 t336] 24 (0, 0)) (by first | exact BK338.out | exact blk_drewN BK338.out _) hb)
         have n2_ := am (blk_below (g := gb345) (o := .cells #[.int .u8 t339, .int .u8 t340, .int .u8 t341, .int .i16 t342, .int .i32 t343] 24 (0, 0)) (by first | exact BK345.out | exact blk_drewN BK345.out _) hb)
         have n3_ := am (below_step (by repeat (first | exact HB.out | apply pb | apply pa | apply pd | refine below_set ?_ GE330.out | refine below_set ?_ GE338.out | refine below_set ?_ GE345.out)) hb)
         clear BK330
         clear BK338
         clear BK345
         clear HB
         have BK330 := n0_
         have BK338 := n1_
         have BK345 := n2_
         have HB := n3_
         clear n0_ n1_ n2_ n3_
         (try clear hb)
         (try clear hb2)
         (try clear hk)
         (try clear hi)
         refine hK.out _ _ ⟨(blk_cell BK338.out 0).trans rfl, (blk_cell BK338.out 1).trans rfl, (blk_cell BK338.out 2).trans rfl, (blk_cell BK338.out 3).trans rfl, (blk_cell BK338.out 4).trans rfl, (blk_cell BK345.out 0).trans rfl, (blk_cell BK345.out 1).trans rfl, (blk_cell BK345.out 2).trans rfl, (blk_cell BK345.out 3).trans rfl, (blk_cell BK345.out 4).trans rfl, (blk_cell BK330.out 0).trans rfl, (blk_cell BK330.out 1).trans rfl, (blk_cell BK330.out 2).trans rfl, (blk_cell BK330.out 3).trans rfl, (blk_cell BK330.out 4).trans rfl⟩ (fun hHeld => ?_)
         clear hK K
         refine norm_ (a' := ?_) ?_ ?_
         rotate_left
         ·show Act.put _ (some 40) _ = _
          simp only [Act.put, q1, q2, q3, i64_w, i32_w]
          rfl
         refine one_ (i := 19) (N := some 42) (ar 47 1048575) rfl rfl (one_of HT_.out (by kernel_rfl)) (by decide) (fun K hK => ?_)
         refine goes_ Try.func20 (by kernel_rfl) rfl #[.agg #[.int .u8 a0_0, .int .u8 a0_1, .int .u8 a0_2, .int .i16 a0_3, .int .i32 a0_4]] (by rfl) rfl rfl (by (try simp only [List.map_toArray, List.map_cons, List.map_nil]); first | done | rfl) ?_
         with_reducible refine (wardenref07_Kind.calls k a0_0 a0_1 a0_2 a0_3 a0_4 t349 _ A15.out).mono ?_
         rintro e w42 ⟨rfl, hb⟩
         refine ⟨_, rfl, ?_⟩
         have n0_ := am (blk_below (g := gb330) (o := .cells #[.int .u8 a0_0, .int .u8 a0_1, .int .u8 a0_2, .int .i16 a0_3, .int .i32 a0_4] 24 (0, 0)) (by first | exact BK330.out | exact blk_drewN BK330.out _) hb)
         have n1_ := am (blk_below (g := gb338) (o := .cells #[.int .u8 t332, .int .u8 t333, .int .u8 t334, .int .i16 t335, .int .i32 t336] 24 (0, 0)) (by first | exact BK338.out | exact blk_drewN BK338.out _) hb)
         have n2_ := am (blk_below (g := gb345) (o := .cells #[.int .u8 t339, .int .u8 t340, .int .u8 t341, .int .i16 t342, .int .i32 t343] 24 (0, 0)) (by first | exact BK345.out | exact blk_drewN BK345.out _) hb)
         have n3_ := am (below_step (by repeat (first | exact HB.out | apply pb | apply pa | apply pd | refine below_set ?_ GE330.out | refine below_set ?_ GE338.out | refine below_set ?_ GE345.out)) hb)
         clear BK330
         clear BK338
         clear BK345
         clear HB
         have BK330 := n0_
         have BK338 := n1_
         have BK345 := n2_
         have HB := n3_
         clear n0_ n1_ n2_ n3_
         (try clear hb)
         (try clear hb2)
         (try clear hk)
         (try clear hi)
         refine hK.out _ _ ⟨(blk_cell BK338.out 0).trans rfl, (blk_cell BK338.out 1).trans rfl, (blk_cell BK338.out 2).trans rfl, (blk_cell BK338.out 3).trans rfl, (blk_cell BK338.out 4).trans rfl, (blk_cell BK345.out 0).trans rfl, (blk_cell BK345.out 1).trans rfl, (blk_cell BK345.out 2).trans rfl, (blk_cell BK345.out 3).trans rfl, (blk_cell BK345.out 4).trans rfl, (blk_cell BK330.out 0).trans rfl, (blk_cell BK330.out 1).trans rfl, (blk_cell BK330.out 2).trans rfl, (blk_cell BK330.out 3).trans rfl, (blk_cell BK330.out 4).trans rfl⟩ (fun hHeld => ?_)
         clear hK K
         refine norm_ (a' := ?_) ?_ ?_
         rotate_left
         ·show Act.put _ (some 42) _ = _
          simp only [Act.put, q1, q2, q3, i64_w, i32_w]
          rfl
         refine pure_ (i := 20) (N := some 43) (v := ?_) (a' := ?_) (ar 47 2097151) rfl rfl (any_of HT_.out (by kernel_rfl)) (fun _ _ _ h => h) (Or.inl ⟨by rfl, ?_⟩) ?_ ?_
         rotate_left
         ·intro w'
          go_simp
          with_reducible rfl
         rotate_left
         ·simp only [Act.put, q1, q2, q3, i64_w, i32_w]
          rfl
         refine pure_ (i := 21) (N := some 44) (v := ?_) (a' := ?_) (ar 47 4194303) rfl rfl (any_of HT_.out (by kernel_rfl)) (fun _ _ _ h => h) (Or.inl ⟨by rfl, ?_⟩) ?_ ?_
         rotate_left
         ·intro w'
          go_simp
          with_reducible rfl
         rotate_left
         ·simp only [Act.put, q1, q2, q3, i64_w, i32_w]
          rfl
         refine pure_ (i := 22) (N := some 45) (v := ?_) (a' := ?_) (ar 47 8388607) rfl rfl (any_of HT_.out (by kernel_rfl)) (fun _ _ _ h => h) (Or.inl ⟨by rfl, ?_⟩) ?_ ?_
         rotate_left
         ·intro w'
          go_simp
          with_reducible rfl
         rotate_left
         ·simp only [Act.put, q1, q2, q3, i64_w, i32_w]
          rfl
         refine take_ (i := 23) (N := some 46) (v := ?_) (a' := ?_) (ar 47 16777215) rfl rfl (take_ofW HT_.out HW_.out (by kernel_rfl)) (fun _ _ _ h => h) (Or.inl ⟨by rfl, ?_⟩) hHeld ?_ ?_
         rotate_left
         ·rintro w' ⟨s0, s1, s2, s3, s4, s5, s6, s7, s8, s9, s10, s11, s12, s13, s14⟩
          go_simp
          with_reducible rfl
         rotate_left
         ·simp only [Act.put, q1, q2, q3, i64_w, i32_w]
          rfl
         refine take_ (i := 25) (N := some 48) (v := ?_) (a' := ?_) (ar 47 50331647) rfl rfl (take_ofW HT_.out HW_.out (by kernel_rfl)) (fun _ _ _ h => h) (Or.inl ⟨by rfl, ?_⟩) hHeld ?_ ?_
         rotate_left
         ·rintro w' ⟨s0, s1, s2, s3, s4, s5, s6, s7, s8, s9, s10, s11, s12, s13, s14⟩
          go_simp
          with_reducible rfl
         rotate_left
         ·simp only [Act.put, q1, q2, q3, i64_w, i32_w]
          rfl
         refine one_ (i := 24) (N := some 47) (ar 47 67108863) rfl rfl (one_of HT_.out (by kernel_rfl)) (by decide) (fun K hK => ?_)
         refine goes_ Try.func21 (by kernel_rfl) rfl #[.agg #[.int .u8 a0_0, .int .u8 a0_1, .int .u8 a0_2, .int .i16 a0_3, .int .i32 a0_4]] (by rfl) rfl rfl (by (try simp only [List.map_toArray, List.map_cons, List.map_nil]); first | done | rfl) ?_
         with_reducible refine (insn_Code.calls a0_0 a0_1 a0_2 a0_3 a0_4 t350 _ A17.out).mono ?_
         rintro e w43 ⟨rfl, hb⟩
         refine ⟨_, rfl, ?_⟩
         have n0_ := am (blk_below (g := gb330) (o := .cells #[.int .u8 a0_0, .int .u8 a0_1, .int .u8 a0_2, .int .i16 a0_3, .int .i32 a0_4] 24 (0, 0)) (by first | exact BK330.out | exact blk_drewN BK330.out _) hb)
         have n1_ := am (blk_below (g := gb338) (o := .cells #[.int .u8 t332, .int .u8 t333, .int .u8 t334, .int .i16 t335, .int .i32 t336] 24 (0, 0)) (by first | exact BK338.out | exact blk_drewN BK338.out _) hb)
         have n2_ := am (blk_below (g := gb345) (o := .cells #[.int .u8 t339, .int .u8 t340, .int .u8 t341, .int .i16 t342, .int .i32 t343] 24 (0, 0)) (by first | exact BK345.out | exact blk_drewN BK345.out _) hb)
         have n3_ := am (below_step (by repeat (first | exact HB.out | apply pb | apply pa | apply pd | refine below_set ?_ GE330.out | refine below_set ?_ GE338.out | refine below_set ?_ GE345.out)) hb)
         clear BK330
         clear BK338
         clear BK345
         clear HB
         have BK330 := n0_
         have BK338 := n1_
         have BK345 := n2_
         have HB := n3_
         clear n0_ n1_ n2_ n3_
         (try clear hb)
         (try clear hb2)
         (try clear hk)
         (try clear hi)
         refine hK.out _ _ ⟨(blk_cell BK338.out 0).trans rfl, (blk_cell BK338.out 1).trans rfl, (blk_cell BK338.out 2).trans rfl, (blk_cell BK338.out 3).trans rfl, (blk_cell BK338.out 4).trans rfl, (blk_cell BK345.out 0).trans rfl, (blk_cell BK345.out 1).trans rfl, (blk_cell BK345.out 2).trans rfl, (blk_cell BK345.out 3).trans rfl, (blk_cell BK345.out 4).trans rfl, (blk_cell BK330.out 0).trans rfl, (blk_cell BK330.out 1).trans rfl, (blk_cell BK330.out 2).trans rfl, (blk_cell BK330.out 3).trans rfl, (blk_cell BK330.out 4).trans rfl⟩ (fun hHeld => ?_)
         clear hK K
         refine norm_ (a' := ?_) ?_ ?_
         rotate_left
         ·show Act.put _ (some 47) _ = _
          simp only [Act.put, q1, q2, q3, i64_w, i32_w]
          rfl
         refine one_ (i := 26) (N := some 49) (ar 47 134217727) rfl rfl (one_of HT_.out (by kernel_rfl)) (by decide) (fun K hK => ?_)
         refine goes_ Try.func22 (by kernel_rfl) rfl #[.agg #[.int .u8 a0_0, .int .u8 a0_1, .int .u8 a0_2, .int .i16 a0_3, .int .i32 a0_4]] (by rfl) rfl rfl (by (try simp only [List.map_toArray, List.map_cons, List.map_nil]); first | done | rfl) ?_
         with_reducible refine (wardenref07_Code.calls a0_0 a0_1 a0_2 a0_3 a0_4 t351 _ A18.out).mono ?_
         rintro e w44 ⟨rfl, hb⟩
         refine ⟨_, rfl, ?_⟩
         have n0_ := am (blk_below (g := gb330) (o := .cells #[.int .u8 a0_0, .int .u8 a0_1, .int .u8 a0_2, .int .i16 a0_3, .int .i32 a0_4] 24 (0, 0)) (by first | exact BK330.out | exact blk_drewN BK330.out _) hb)
         have n1_ := am (blk_below (g := gb338) (o := .cells #[.int .u8 t332, .int .u8 t333, .int .u8 t334, .int .i16 t335, .int .i32 t336] 24 (0, 0)) (by first | exact BK338.out | exact blk_drewN BK338.out _) hb)
         have n2_ := am (blk_below (g := gb345) (o := .cells #[.int .u8 t339, .int .u8 t340, .int .u8 t341, .int .i16 t342, .int .i32 t343] 24 (0, 0)) (by first | exact BK345.out | exact blk_drewN BK345.out _) hb)
         have n3_ := am (below_step (by repeat (first | exact HB.out | apply pb | apply pa | apply pd | refine below_set ?_ GE330.out | refine below_set ?_ GE338.out | refine below_set ?_ GE345.out)) hb)
         clear BK330
         clear BK338
         clear BK345
         clear HB
         have BK330 := n0_
         have BK338 := n1_
         have BK345 := n2_
         have HB := n3_
         clear n0_ n1_ n2_ n3_
         (try clear hb)
         (try clear hb2)
         (try clear hk)
         (try clear hi)
         refine hK.out _ _ ⟨(blk_cell BK338.out 0).trans rfl, (blk_cell BK338.out 1).trans rfl, (blk_cell BK338.out 2).trans rfl, (blk_cell BK338.out 3).trans rfl, (blk_cell BK338.out 4).trans rfl, (blk_cell BK345.out 0).trans rfl, (blk_cell BK345.out 1).trans rfl, (blk_cell BK345.out 2).trans rfl, (blk_cell BK345.out 3).trans rfl, (blk_cell BK345.out 4).trans rfl, (blk_cell BK330.out 0).trans rfl, (blk_cell BK330.out 1).trans rfl, (blk_cell BK330.out 2).trans rfl, (blk_cell BK330.out 3).trans rfl, (blk_cell BK330.out 4).trans rfl⟩ (fun hHeld => ?_)
         clear hK K
         refine norm_ (a' := ?_) ?_ ?_
         rotate_left
         ·show Act.put _ (some 49) _ = _
          simp only [Act.put, q1, q2, q3, i64_w, i32_w]
          rfl
         refine pure_ (i := 27) (N := some 50) (v := ?_) (a' := ?_) (ar 47 268435455) rfl rfl (any_of HT_.out (by kernel_rfl)) (fun _ _ _ h => h) (Or.inl ⟨by rfl, ?_⟩) ?_ ?_
         rotate_left
         ·intro w'
          go_simp
          with_reducible rfl
         rotate_left
         ·simp only [Act.put, q1, q2, q3, i64_w, i32_w]
          rfl
         refine pure_ (i := 28) (N := some 51) (v := ?_) (a' := ?_) (ar 47 536870911) rfl rfl (any_of HT_.out (by kernel_rfl)) (fun _ _ _ h => h) (Or.inl ⟨by rfl, ?_⟩) ?_ ?_
         rotate_left
         ·intro w'
          go_simp
          with_reducible rfl
         rotate_left
         ·simp only [Act.put, q1, q2, q3, i64_w, i32_w]
          rfl
         refine pure_ (i := 29) (N := some 52) (v := ?_) (a' := ?_) (ar 47 1073741823) rfl rfl (any_of HT_.out (by kernel_rfl)) (fun _ _ _ h => h) (Or.inl ⟨by rfl, ?_⟩) ?_ ?_
         rotate_left
         ·intro w'
          go_simp
          with_reducible rfl
         rotate_left
         ·simp only [Act.put, q1, q2, q3, i64_w, i32_w]
          rfl
         refine take_ (i := 30) (N := some 53) (v := ?_) (a' := ?_) (ar 47 2147483647) rfl rfl (take_ofW HT_.out HW_.out (by kernel_rfl)) (fun _ _ _ h => h) (Or.inl ⟨by rfl, ?_⟩) hHeld ?_ ?_
         rotate_left
         ·rintro w' ⟨s0, s1, s2, s3, s4, s5, s6, s7, s8, s9, s10, s11, s12, s13, s14⟩
          go_simp
          with_reducible rfl
         rotate_left
         ·simp only [Act.put, q1, q2, q3, i64_w, i32_w]
          rfl
         refine take_ (i := 32) (N := some 55) (v := ?_) (a' := ?_) (ar 47 6442450943) rfl rfl (take_ofW HT_.out HW_.out (by kernel_rfl)) (fun _ _ _ h => h) (Or.inl ⟨by rfl, ?_⟩) hHeld ?_ ?_
         rotate_left
         ·rintro w' ⟨s0, s1, s2, s3, s4, s5, s6, s7, s8, s9, s10, s11, s12, s13, s14⟩
          go_simp
          with_reducible rfl
         rotate_left
         ·simp only [Act.put, q1, q2, q3, i64_w, i32_w]
          rfl
         refine one_ (i := 31) (N := some 54) (ar 47 8589934591) rfl rfl (one_of HT_.out (by kernel_rfl)) (by decide) (fun K hK => ?_)
         refine goes_ Try.func23 (by kernel_rfl) rfl #[.agg #[.int .u8 a0_0, .int .u8 a0_1, .int .u8 a0_2, .int .i16 a0_3, .int .i32 a0_4]] (by rfl) rfl rfl (by (try simp only [List.map_toArray, List.map_cons, List.map_nil]); first | done | rfl) ?_
         with_reducible refine (insn_Size.calls k a0_0 a0_1 a0_2 a0_3 a0_4 t352 _ A20.out).mono ?_
         rintro e w45 ⟨rfl, hb⟩
         refine ⟨_, rfl, ?_⟩
         have n0_ := am (blk_below (g := gb330) (o := .cells #[.int .u8 a0_0, .int .u8 a0_1, .int .u8 a0_2, .int .i16 a0_3, .int .i32 a0_4] 24 (0, 0)) (by first | exact BK330.out | exact blk_drewN BK330.out _) hb)
         have n1_ := am (blk_below (g := gb338) (o := .cells #[.int .u8 t332, .int .u8 t333, .int .u8 t334, .int .i16 t335, .int .i32 t336] 24 (0, 0)) (by first | exact BK338.out | exact blk_drewN BK338.out _) hb)
         have n2_ := am (blk_below (g := gb345) (o := .cells #[.int .u8 t339, .int .u8 t340, .int .u8 t341, .int .i16 t342, .int .i32 t343] 24 (0, 0)) (by first | exact BK345.out | exact blk_drewN BK345.out _) hb)
         have n3_ := am (below_step (by repeat (first | exact HB.out | apply pb | apply pa | apply pd | refine below_set ?_ GE330.out | refine below_set ?_ GE338.out | refine below_set ?_ GE345.out)) hb)
         clear BK330
         clear BK338
         clear BK345
         clear HB
         have BK330 := n0_
         have BK338 := n1_
         have BK345 := n2_
         have HB := n3_
         clear n0_ n1_ n2_ n3_
         (try clear hb)
         (try clear hb2)
         (try clear hk)
         (try clear hi)
         refine hK.out _ _ ⟨(blk_cell BK338.out 0).trans rfl, (blk_cell BK338.out 1).trans rfl, (blk_cell BK338.out 2).trans rfl, (blk_cell BK338.out 3).trans rfl, (blk_cell BK338.out 4).trans rfl, (blk_cell BK345.out 0).trans rfl, (blk_cell BK345.out 1).trans rfl, (blk_cell BK345.out 2).trans rfl, (blk_cell BK345.out 3).trans rfl, (blk_cell BK345.out 4).trans rfl, (blk_cell BK330.out 0).trans rfl, (blk_cell BK330.out 1).trans rfl, (blk_cell BK330.out 2).trans rfl, (blk_cell BK330.out 3).trans rfl, (blk_cell BK330.out 4).trans rfl⟩ (fun hHeld => ?_)
         clear hK K
         refine norm_ (a' := ?_) ?_ ?_
         rotate_left
         ·show Act.put _ (some 54) _ = _
          simp only [Act.put, q1, q2, q3, i64_w, i32_w]
          rfl
         refine one_ (i := 33) (N := some 56) (ar 47 17179869183) rfl rfl (one_of HT_.out (by kernel_rfl)) (by decide) (fun K hK => ?_)
         refine goes_ Try.func24 (by kernel_rfl) rfl #[.agg #[.int .u8 a0_0, .int .u8 a0_1, .int .u8 a0_2, .int .i16 a0_3, .int .i32 a0_4]] (by rfl) rfl rfl (by (try simp only [List.map_toArray, List.map_cons, List.map_nil]); first | done | rfl) ?_
         with_reducible refine (wardenref07_Size.calls k a0_0 a0_1 a0_2 a0_3 a0_4 t353 _ A21.out).mono ?_
         rintro e w46 ⟨rfl, hb⟩
         refine ⟨_, rfl, ?_⟩
         have n0_ := am (blk_below (g := gb330) (o := .cells #[.int .u8 a0_0, .int .u8 a0_1, .int .u8 a0_2, .int .i16 a0_3, .int .i32 a0_4] 24 (0, 0)) (by first | exact BK330.out | exact blk_drewN BK330.out _) hb)
         have n1_ := am (blk_below (g := gb338) (o := .cells #[.int .u8 t332, .int .u8 t333, .int .u8 t334, .int .i16 t335, .int .i32 t336] 24 (0, 0)) (by first | exact BK338.out | exact blk_drewN BK338.out _) hb)
         have n2_ := am (blk_below (g := gb345) (o := .cells #[.int .u8 t339, .int .u8 t340, .int .u8 t341, .int .i16 t342, .int .i32 t343] 24 (0, 0)) (by first | exact BK345.out | exact blk_drewN BK345.out _) hb)
         have n3_ := am (below_step (by repeat (first | exact HB.out | apply pb | apply pa | apply pd | refine below_set ?_ GE330.out | refine below_set ?_ GE338.out | refine below_set ?_ GE345.out)) hb)
         clear BK330
         clear BK338
         clear BK345
         clear HB
         have BK330 := n0_
         have BK338 := n1_
         have BK345 := n2_
         have HB := n3_
         clear n0_ n1_ n2_ n3_
         (try clear hb)
         (try clear hb2)
         (try clear hk)
         (try clear hi)
         refine hK.out _ _ ⟨(blk_cell BK338.out 0).trans rfl, (blk_cell BK338.out 1).trans rfl, (blk_cell BK338.out 2).trans rfl, (blk_cell BK338.out 3).trans rfl, (blk_cell BK338.out 4).trans rfl, (blk_cell BK345.out 0).trans rfl, (blk_cell BK345.out 1).trans rfl, (blk_cell BK345.out 2).trans rfl, (blk_cell BK345.out 3).trans rfl, (blk_cell BK345.out 4).trans rfl, (blk_cell BK330.out 0).trans rfl, (blk_cell BK330.out 1).trans rfl, (blk_cell BK330.out 2).trans rfl, (blk_cell BK330.out 3).trans rfl, (blk_cell BK330.out 4).trans rfl⟩ (fun hHeld => ?_)
         clear hK K
         refine norm_ (a' := ?_) ?_ ?_
         rotate_left
         ·show Act.put _ (some 56) _ = _
          simp only [Act.put, q1, q2, q3, i64_w, i32_w]
          rfl
         refine pure_ (i := 34) (N := some 57) (v := ?_) (a' := ?_) (ar 47 34359738367) rfl rfl (any_of HT_.out (by kernel_rfl)) (fun _ _ _ h => h) (Or.inl ⟨by rfl, ?_⟩) ?_ ?_
         rotate_left
         ·intro w'
          go_simp
          with_reducible rfl
         rotate_left
         ·simp only [Act.put, q1, q2, q3, i64_w, i32_w]
          rfl
         refine pure_ (i := 35) (N := some 58) (v := ?_) (a' := ?_) (ar 47 68719476735) rfl rfl (any_of HT_.out (by kernel_rfl)) (fun _ _ _ h => h) (Or.inl ⟨by rfl, ?_⟩) ?_ ?_
         rotate_left
         ·intro w'
          go_simp
          with_reducible rfl
         rotate_left
         ·simp only [Act.put, q1, q2, q3, i64_w, i32_w]
          rfl
         refine pure_ (i := 36) (N := some 59) (v := ?_) (a' := ?_) (ar 47 137438953471) rfl rfl (any_of HT_.out (by kernel_rfl)) (fun _ _ _ h => h) (Or.inl ⟨by rfl, ?_⟩) ?_ ?_
         rotate_left
         ·intro w'
          go_simp
          with_reducible rfl
         rotate_left
         ·simp only [Act.put, q1, q2, q3, i64_w, i32_w]
          rfl
         refine take_ (i := 37) (N := some 60) (v := ?_) (a' := ?_) (ar 47 274877906943) rfl rfl (take_ofW HT_.out HW_.out (by kernel_rfl)) (fun _ _ _ h => h) (Or.inl ⟨by rfl, ?_⟩) hHeld ?_ ?_
         rotate_left
         ·rintro w' ⟨s0, s1, s2, s3, s4, s5, s6, s7, s8, s9, s10, s11, s12, s13, s14⟩
          go_simp
          with_reducible rfl
         rotate_left
         ·simp only [Act.put, q1, q2, q3, i64_w, i32_w]
          rfl
         refine take_ (i := 39) (N := some 62) (v := ?_) (a' := ?_) (ar 47 824633720831) rfl rfl (take_ofW HT_.out HW_.out (by kernel_rfl)) (fun _ _ _ h => h) (Or.inl ⟨by rfl, ?_⟩) hHeld ?_ ?_
         rotate_left
         ·rintro w' ⟨s0, s1, s2, s3, s4, s5, s6, s7, s8, s9, s10, s11, s12, s13, s14⟩
          go_simp
          with_reducible rfl
         rotate_left
         ·simp only [Act.put, q1, q2, q3, i64_w, i32_w]
          rfl
         refine one_ (i := 38) (N := some 61) (ar 47 1099511627775) rfl rfl (one_of HT_.out (by kernel_rfl)) (by decide) (fun K hK => ?_)
         refine goes_ Try.func25 (by kernel_rfl) rfl #[.agg #[.int .u8 a0_0, .int .u8 a0_1, .int .u8 a0_2, .int .i16 a0_3, .int .i32 a0_4]] (by rfl) rfl rfl (by (try simp only [List.map_toArray, List.map_cons, List.map_nil]); first | done | rfl) ?_
         with_reducible refine (insn_Wide.calls k a0_0 a0_1 a0_2 a0_3 a0_4 t354 _ A23.out).mono ?_
         rintro e w47 ⟨rfl, hb⟩
         refine ⟨_, rfl, ?_⟩
         have n0_ := am (blk_below (g := gb330) (o := .cells #[.int .u8 a0_0, .int .u8 a0_1, .int .u8 a0_2, .int .i16 a0_3, .int .i32 a0_4] 24 (0, 0)) (by first | exact BK330.out | exact blk_drewN BK330.out _) hb)
         have n1_ := am (blk_below (g := gb338) (o := .cells #[.int .u8 t332, .int .u8 t333, .int .u8 t334, .int .i16 t335, .int .i32 t336] 24 (0, 0)) (by first | exact BK338.out | exact blk_drewN BK338.out _) hb)
         have n2_ := am (blk_below (g := gb345) (o := .cells #[.int .u8 t339, .int .u8 t340, .int .u8 t341, .int .i16 t342, .int .i32 t343] 24 (0, 0)) (by first | exact BK345.out | exact blk_drewN BK345.out _) hb)
         have n3_ := am (below_step (by repeat (first | exact HB.out | apply pb | apply pa | apply pd | refine below_set ?_ GE330.out | refine below_set ?_ GE338.out | refine below_set ?_ GE345.out)) hb)
         clear BK330
         clear BK338
         clear BK345
         clear HB
         have BK330 := n0_
         have BK338 := n1_
         have BK345 := n2_
         have HB := n3_
         clear n0_ n1_ n2_ n3_
         (try clear hb)
         (try clear hb2)
         (try clear hk)
         (try clear hi)
         refine hK.out _ _ ⟨(blk_cell BK338.out 0).trans rfl, (blk_cell BK338.out 1).trans rfl, (blk_cell BK338.out 2).trans rfl, (blk_cell BK338.out 3).trans rfl, (blk_cell BK338.out 4).trans rfl, (blk_cell BK345.out 0).trans rfl, (blk_cell BK345.out 1).trans rfl, (blk_cell BK345.out 2).trans rfl, (blk_cell BK345.out 3).trans rfl, (blk_cell BK345.out 4).trans rfl, (blk_cell BK330.out 0).trans rfl, (blk_cell BK330.out 1).trans rfl, (blk_cell BK330.out 2).trans rfl, (blk_cell BK330.out 3).trans rfl, (blk_cell BK330.out 4).trans rfl⟩ (fun hHeld => ?_)
         clear hK K
         refine norm_ (a' := ?_) ?_ ?_
         rotate_left
         ·show Act.put _ (some 61) _ = _
          simp only [Act.put, q1, q2, q3, i64_w, i32_w]
          rfl
         refine one_ (i := 40) (N := some 63) (ar 47 2199023255551) rfl rfl (one_of HT_.out (by kernel_rfl)) (by decide) (fun K hK => ?_)
         refine goes_ Try.func26 (by kernel_rfl) rfl #[.agg #[.int .u8 a0_0, .int .u8 a0_1, .int .u8 a0_2, .int .i16 a0_3, .int .i32 a0_4]] (by rfl) rfl rfl (by (try simp only [List.map_toArray, List.map_cons, List.map_nil]); first | done | rfl) ?_
         with_reducible refine (wardenref07_Wide.calls k a0_0 a0_1 a0_2 a0_3 a0_4 t355 _ A24.out).mono ?_
         rintro e w48 ⟨rfl, hb⟩
         refine ⟨_, rfl, ?_⟩
         have n0_ := am (blk_below (g := gb330) (o := .cells #[.int .u8 a0_0, .int .u8 a0_1, .int .u8 a0_2, .int .i16 a0_3, .int .i32 a0_4] 24 (0, 0)) (by first | exact BK330.out | exact blk_drewN BK330.out _) hb)
         have n1_ := am (blk_below (g := gb338) (o := .cells #[.int .u8 t332, .int .u8 t333, .int .u8 t334, .int .i16 t335, .int .i32 t336] 24 (0, 0)) (by first | exact BK338.out | exact blk_drewN BK338.out _) hb)
         have n2_ := am (blk_below (g := gb345) (o := .cells #[.int .u8 t339, .int .u8 t340, .int .u8 t341, .int .i16 t342, .int .i32 t343] 24 (0, 0)) (by first | exact BK345.out | exact blk_drewN BK345.out _) hb)
         have n3_ := am (below_step (by repeat (first | exact HB.out | apply pb | apply pa | apply pd | refine below_set ?_ GE330.out | refine below_set ?_ GE338.out | refine below_set ?_ GE345.out)) hb)
         clear BK330
         clear BK338
         clear BK345
         clear HB
         have BK330 := n0_
         have BK338 := n1_
         have BK345 := n2_
         have HB := n3_
         clear n0_ n1_ n2_ n3_
         (try clear hb)
         (try clear hb2)
         (try clear hk)
         (try clear hi)
         refine hK.out _ _ ⟨(blk_cell BK338.out 0).trans rfl, (blk_cell BK338.out 1).trans rfl, (blk_cell BK338.out 2).trans rfl, (blk_cell BK338.out 3).trans rfl, (blk_cell BK338.out 4).trans rfl, (blk_cell BK345.out 0).trans rfl, (blk_cell BK345.out 1).trans rfl, (blk_cell BK345.out 2).trans rfl, (blk_cell BK345.out 3).trans rfl, (blk_cell BK345.out 4).trans rfl, (blk_cell BK330.out 0).trans rfl, (blk_cell BK330.out 1).trans rfl, (blk_cell BK330.out 2).trans rfl, (blk_cell BK330.out 3).trans rfl, (blk_cell BK330.out 4).trans rfl⟩ (fun hHeld => ?_)
         clear hK K
         refine norm_ (a' := ?_) ?_ ?_
         rotate_left
         ·show Act.put _ (some 63) _ = _
          simp only [Act.put, q1, q2, q3, i64_w, i32_w]
          rfl
         refine pure_ (i := 41) (N := some 64) (v := ?_) (a' := ?_) (ar 47 4398046511103) rfl rfl (any_of HT_.out (by kernel_rfl)) (fun _ _ _ h => h) (Or.inl ⟨by rfl, ?_⟩) ?_ ?_
         rotate_left
         ·intro w'
          go_simp
          with_reducible rfl
         rotate_left
         ·simp only [Act.put, q1, q2, q3, i64_w, i32_w]
          rfl
         refine pure_ (i := 42) (N := some 65) (v := ?_) (a' := ?_) (ar 47 8796093022207) rfl rfl (any_of HT_.out (by kernel_rfl)) (fun _ _ _ h => h) (Or.inl ⟨by rfl, ?_⟩) ?_ ?_
         rotate_left
         ·intro w'
          go_simp
          with_reducible rfl
         rotate_left
         ·simp only [Act.put, q1, q2, q3, i64_w, i32_w]
          rfl
         refine pure_ (i := 43) (N := some 66) (v := ?_) (a' := ?_) (ar 47 17592186044415) rfl rfl (any_of HT_.out (by kernel_rfl)) (fun _ _ _ h => h) (Or.inl ⟨by rfl, ?_⟩) ?_ ?_
         rotate_left
         ·intro w'
          go_simp
          with_reducible rfl
         rotate_left
         ·simp only [Act.put, q1, q2, q3, i64_w, i32_w]
          rfl
         refine one_ (i := 44) (N := some 67) (ar 47 35184372088831) rfl rfl (one_of HT_.out (by kernel_rfl)) (by decide) (fun K hK => ?_)
         refine goes_ Try.func14 (by kernel_rfl) rfl #[] (by rfl) rfl rfl (by (try simp only [List.map_toArray, List.map_cons, List.map_nil]); first | done | rfl) ?_
         with_reducible refine (wardenlaw07_alive.calls k t356 _ hr_ A26.out).mono ?_
         rintro e w49 ⟨rfl, hb⟩
         refine ⟨_, rfl, ?_⟩
         have n0_ := am (blk_below (g := gb330) (o := .cells #[.int .u8 a0_0, .int .u8 a0_1, .int .u8 a0_2, .int .i16 a0_3, .int .i32 a0_4] 24 (0, 0)) (by first | exact BK330.out | exact blk_drewN BK330.out _) hb)
         have n1_ := am (blk_below (g := gb338) (o := .cells #[.int .u8 t332, .int .u8 t333, .int .u8 t334, .int .i16 t335, .int .i32 t336] 24 (0, 0)) (by first | exact BK338.out | exact blk_drewN BK338.out _) hb)
         have n2_ := am (blk_below (g := gb345) (o := .cells #[.int .u8 t339, .int .u8 t340, .int .u8 t341, .int .i16 t342, .int .i32 t343] 24 (0, 0)) (by first | exact BK345.out | exact blk_drewN BK345.out _) hb)
         have n3_ := am (below_step (by repeat (first | exact HB.out | apply pb | apply pa | apply pd | refine below_set ?_ GE330.out | refine below_set ?_ GE338.out | refine below_set ?_ GE345.out)) hb)
         clear BK330
         clear BK338
         clear BK345
         clear HB
         have BK330 := n0_
         have BK338 := n1_
         have BK345 := n2_
         have HB := n3_
         clear n0_ n1_ n2_ n3_
         (try clear hb)
         (try clear hb2)
         (try clear hk)
         (try clear hi)
         refine hK.out _ _ ⟨(blk_cell BK338.out 0).trans rfl, (blk_cell BK338.out 1).trans rfl, (blk_cell BK338.out 2).trans rfl, (blk_cell BK338.out 3).trans rfl, (blk_cell BK338.out 4).trans rfl, (blk_cell BK345.out 0).trans rfl, (blk_cell BK345.out 1).trans rfl, (blk_cell BK345.out 2).trans rfl, (blk_cell BK345.out 3).trans rfl, (blk_cell BK345.out 4).trans rfl, (blk_cell BK330.out 0).trans rfl, (blk_cell BK330.out 1).trans rfl, (blk_cell BK330.out 2).trans rfl, (blk_cell BK330.out 3).trans rfl, (blk_cell BK330.out 4).trans rfl⟩ (fun hHeld => ?_)
         clear hK K
         refine norm_ (a' := ?_) ?_ ?_
         rotate_left
         ·show Act.put _ (some 67) _ = _
          simp only [Act.put, q1, q2, q3, i64_w, i32_w]
          rfl
         refine pure_ (i := 45) (N := some 68) (v := ?_) (a' := ?_) (ar 47 70368744177663) rfl rfl (any_of HT_.out (by kernel_rfl)) (fun _ _ _ h => h) (Or.inl ⟨by rfl, ?_⟩) ?_ ?_
         rotate_left
         ·intro w'
          go_simp
          with_reducible rfl
         rotate_left
         ·simp only [Act.put, q1, q2, q3, i64_w, i32_w]
          rfl
         refine pure_ (i := 46) (N := some 4) (v := ?_) (a' := ?_) (ar 47 140737488355327) rfl rfl (any_of HT_.out (by kernel_rfl)) (fun _ _ _ h => h) (Or.inl ⟨by rfl, ?_⟩) ?_ ?_
         rotate_left
         ·intro w'
          go_simp
          with_reducible rfl
         rotate_left
         ·simp only [Act.put, q1, q2, q3, i64_w, i32_w]
          rfl
         refine done_ (done_of HT_.out (by kernel_rfl)) ?_
         try go_wp2
         go_ret
         exact ⟨by first | rfl | (simp [errW_none, errW_some] <;> rfl) | (simp [*, errW_none, errW_some] <;> rfl), by repeat (first | (with_reducible first | exact HB.out | apply below_alloc | apply pw_below_drewN | apply below_drew1 | refine below_set ?_ GE330.out | refine below_set ?_ GE338.out | refine below_set ?_ GE345.out) | exact HB.out)⟩
        ·rw [if_neg c25] at H
         have c25b0 : (t354 == t355) = false := by simpa using c25
         (try (have c25b1 : decide (t354 = t355) = false := by simpa using c25))
         (try (have c25b2 : (t354 == t355) = false := by simpa using c25))
         (try (have c25b3 : ¬ (t354 = t355) := by simpa using c25))
         clear c25
         exact absurd ((Option.some.inj H).trans hr_.out) (by decide)
       ·rw [if_neg c22] at H
        have c22b0 : (t352 == t353) = false := beq_eq_false_iff_ne.mpr c22
        have c22b1 : (t352 != t353) = true := bne_iff_ne.mpr c22
        exact absurd ((Option.some.inj H).trans hr_.out) (by decide)
      ·rw [if_neg c19] at H
       have c19b0 : (t350 == t351) = false := beq_eq_false_iff_ne.mpr c19
       have c19b1 : (t350 != t351) = true := bne_iff_ne.mpr c19
       exact absurd ((Option.some.inj H).trans hr_.out) (by decide)
     ·rw [if_neg c16] at H
      have c16b0 : (t348 == t349) = false := beq_eq_false_iff_ne.mpr c16
      have c16b1 : (t348 != t349) = true := bne_iff_ne.mpr c16
      exact absurd ((Option.some.inj H).trans hr_.out) (by decide)
    ·rw [if_neg c13] at H
     have c13b0 : (t346.toList == t347.toList) = false := beq_eq_false_iff_ne.mpr c13
     have c13b1 : (t346.toList != t347.toList) = true := bne_iff_ne.mpr c13
     exact absurd ((Option.some.inj H).trans hr_.out) (by decide)
   ·rw [if_neg c10] at H
    have c10b0 : (t337 == t344) = false := beq_eq_false_iff_ne.mpr c10
    have c10b1 : (t337 != t344) = true := bne_iff_ne.mpr c10
    exact absurd ((Option.some.inj H).trans hr_.out) (by decide)
  ·rw [if_neg c9] at H
   have c9b0 : (t332 == t339 && (t333 == t340 && (t334 == t341 && (t335 == t342 && (t336 == t343))))) = false := by simpa using c9
   (try (have c9b1 : decide (t332 = t339 && (t333 == t340 && (t334 == t341 && (t335 == t342 && (t336 == t343))))) = false := by simpa using c9))
   (try (have c9b2 : (t332 == t339 && (t333 == t340 && (t334 == t341 && (t335 == t342 && (t336 == t343))))) = false := by simpa using c9))
   (try (have c9b3 : ¬ (t332 = t339 && (t333 == t340 && (t334 == t341 && (t335 == t342 && (t336 == t343))))) := by simpa using c9))
   clear c9
   exact absurd ((Option.some.inj H).trans hr_.out) (by decide)
end Go.Proofs.Ytibghcmkmbamjaa.PI
