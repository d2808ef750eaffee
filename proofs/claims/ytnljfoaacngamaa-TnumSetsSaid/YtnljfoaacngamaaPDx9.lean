-- turned from the kit's print
import Derived.Test.YtnljfoaacngamaaPDx0
import Derived.Test.YtnljfoaacngamaaShort
import Derived.Test.YtnljfoaacngamaaPDx1
import Derived.Test.YtnljfoaacngamaaPDx2
import Derived.Test.YtnljfoaacngamaaPDx2r
import Derived.Test.YtnljfoaacngamaaPDx3
import Derived.Test.YtnljfoaacngamaaPDx4
import Derived.Test.YtnljfoaacngamaaPDx4r
import Derived.Test.YtnljfoaacngamaaPDx5
import Derived.Test.YtnljfoaacngamaaPDx5r
import Derived.Test.YtnljfoaacngamaaPDx6
import Derived.Test.YtnljfoaacngamaaPDx7
import Derived.Test.YtnljfoaacngamaaPDx7r
import Derived.Test.YtnljfoaacngamaaPDx8
namespace Go.Proofs.Ytnljfoaacngamaa.PD
open Go.RowKit Go.Proofs.YtnljfoaacngamaaW.PrintWords Go.Proofs.YtnljfoaacngamaaW.PrintLast Go.Proofs.YtnljfoaacngamaaW.PrintMore
attribute [local go_sem] max2_int min2_int max_two min_two max_three min_three max_four min_four   -- for this text's walks alone
set_option linter.unusedVariables false
set_option linter.unusedSimpArgs false

attribute [local go_sem high] eqA24
/-! ### wardenlaw03_TnumSets: function 3 -/
def wardenlaw03_TnumSets.f (k : Nat) (a0 : Int) (a1 : Int) (a2 : Int) (a3 : Int) (a4 : Int) (a5 : Int) : Option (Bool) := (wardenlaw03_of.f a0 a1).bind fun bt226 => ((wardenlaw03_of.f a2 a3).bind fun bt228 => ((tnum_Meet.f bt226.1 bt226.2 bt228.1 bt228.2).bind fun bt232 => ((wardenref03_Meet.f k bt226.1 bt226.2 bt228.1 bt228.2).bind fun bt236 => ((tnum_May.f bt226.1 bt226.2).bind fun t240 => (if t240 = true then ((tnum_May.f a0 a1).bind fun t241 => (if (t241 == ((Go.bits .and .u64 a0 a1) == 0)) = true then ((tnum_Has.f bt226.1 bt226.2 a4).bind fun t242 => ((wardenref03_Has.f k bt226.1 bt226.2 a4).bind fun t243 => (if (t242 == t243) = true then ((tnum_In.f bt226.1 bt226.2 bt228.1 bt228.2).bind fun t244 => ((wardenref03_In.f k bt226.1 bt226.2 bt228.1 bt228.2).bind fun t245 => (if (t244 == t245) = true then ((tnum_Const.f a4).bind fun bt246 => ((wardenlaw03_of.f a4 0).bind fun bt248 => (if (bt246.1 == bt248.1 && (bt246.2 == bt248.2)) = true then ((tnum_Range.f k a0 a2).bind fun bt250 => ((wardenref03_Range.f k a0 a2).bind fun bt252 => (if (bt250.1 == bt252.1 && (bt250.2 == bt252.2)) = true then ((tnum_Join.f bt226.1 bt226.2 bt228.1 bt228.2).bind fun bt254 => ((wardenref03_Bits.f k bt226.1 bt226.2 bt228.1 bt228.2 0).bind fun bt256 => (if (bt254.1 == bt256.1 && (bt254.2 == bt256.2)) = true then (if (bt232.1 == bt236.1 && (bt232.2.1 == bt236.2.1)) = true then (if (bt232.2.2 == bt236.2.2) = true then ((tnum_Low.f bt226.1 bt226.2 (IntKind.u64.wrap (a5))).bind fun bt258 => ((wardenref03_Low.f k bt226.1 bt226.2 (IntKind.u64.wrap (a5))).bind fun bt260 => (if (bt258.1 == bt260.1 && (bt258.2 == bt260.2)) = true then ((wardenlaw03_works.f k).bind fun t262 => (some t262)) else (some false)))) else (some false)) else (some false)) else (some false)))) else (some false)))) else (some false)))) else (some false)))) else (some false)))) else (some false))) else (some false))))))
theorem wardenlaw03_TnumSets.mono : ∀ a0 a1 a2 a3 a4 a5 k, LeO (wardenlaw03_TnumSets.f k a0 a1 a2 a3 a4 a5) (wardenlaw03_TnumSets.f (k + 1) a0 a1 a2 a3 a4 a5) := by
 intro a0 a1 a2 a3 a4 a5 k
 unfold wardenlaw03_TnumSets.f
 repeat' first
   | (with_reducible exact tnum_Range.mono _ _ _)
   | (with_reducible exact wardenlaw03_works.mono _)
   | (with_reducible exact wardenref03_Bits.mono _ _ _ _ _ _)
   | (with_reducible exact wardenref03_Has.mono _ _ _ _)
   | (with_reducible exact wardenref03_In.mono _ _ _ _ _)
   | (with_reducible exact wardenref03_Low.mono _ _ _ _)
   | (with_reducible exact wardenref03_Meet.mono _ _ _ _ _)
   | (with_reducible exact wardenref03_Range.mono _ _ _)
   | (with_reducible exact LeO.refl _)
   | (with_reducible exact LeO.none _)
   | (with_reducible refine LeO.ite ?_ ?_)
   | (with_reducible refine LeO.bind ?_ (fun _ => ?_))
   | exact tnum_Range.mono _ _ _
   | exact wardenlaw03_works.mono _
   | exact wardenref03_Bits.mono _ _ _ _ _ _
   | exact wardenref03_Has.mono _ _ _ _
   | exact wardenref03_In.mono _ _ _ _ _
   | exact wardenref03_Low.mono _ _ _ _
   | exact wardenref03_Meet.mono _ _ _ _ _
   | exact wardenref03_Range.mono _ _ _
   | exact LeO.none _
   | refine LeO.ite ?_ ?_
   | refine LeO.bind ?_ (fun _ => ?_)
def wardenlaw03_TnumSets.T4 : Bool × List (List Nat × List Nat) := (true, [([], []), ([0], [0]), ([1, 1], [1]), ([2], [2]), ([2], [2]), ([3, 4, 2], [2, 3, 4]), ([5, 2, 2], [2, 5]), ([2], [2]), ([2], [2]), ([7, 8, 2], [2, 7, 8]), ([9, 2], [2, 9]), ([6, 10, 2], [2, 6, 10]), ([2, 11], [2, 11]), ([12, 6], [12]), ([13], [13]), ([13], [13]), ([14, 15, 13, 13], [13, 14, 15]), ([13], [13]), ([13], [13]), ([17, 18, 16, 13], [13, 17, 18]), ([16, 19, 13], [13, 16, 19]), ([13, 20], [13, 20]), ([21, 19], [21]), ([22], [22]), ([22], [22]), ([23, 24, 22, 22], [22, 23, 24]), ([22], [22]), ([22], [22]), ([26, 27, 25, 22], [22, 26, 27]), ([25, 28, 22], [22, 25, 28]), ([22, 29], [22, 29]), ([30, 28], [30]), ([31], [31]), ([32, 31, 31], [31, 32]), ([31], [31]), ([34, 33, 31], [31, 34]), ([33, 35, 31], [31, 33, 35]), ([31, 36], [31, 36]), ([37, 35], [37]), ([38], [38]), ([38], [38]), ([39, 40, 38, 38], [38, 39, 40]), ([38], [38]), ([38], [38]), ([42, 43, 41, 38], [38, 42, 43]), ([41, 44, 38], [38, 41, 44]), ([38, 45], [38, 45]), ([46, 44], [46]), ([47], [47]), ([47], [47]), ([48, 49, 47, 47], [47, 48, 49]), ([47], [47]), ([47], [47]), ([51, 52, 50, 47], [47, 51, 52]), ([50, 53, 47], [47, 50, 53]), ([47, 54], [47, 54]), ([55, 53], [55]), ([56], [56]), ([56], [56]), ([57, 58, 56], [56, 57, 58]), ([56, 59], [56, 59]), ([60, 56], [60]), ([61], [61]), ([61], [61]), ([62, 63, 61], [61, 62, 63]), ([61, 64], [61, 64]), ([65, 61], [65]), ([66], [66]), ([66], [66]), ([68, 66], [66, 68]), ([67, 69, 66, 66], [66, 67, 69]), ([66], [66]), ([66], [66]), ([72, 66], [66, 72]), ([71, 73, 70, 66], [66, 71, 73]), ([70, 74, 66], [66, 70, 74]), ([66, 75], [66, 75]), ([76, 74], [76]), ([77, 77], [77]), ([77, 78], [77, 78]), ([79, 78, 0, 1, 2, 3, 4, 5, 6, 7, 8, 9, 10, 11, 12, 13, 14, 15, 16, 17, 18, 19, 20, 21, 22, 23, 24, 25, 26, 27, 28, 29, 30, 31, 32, 33, 34, 35, 36, 37, 38, 39, 40, 41, 42, 43, 44, 45, 46, 47, 48, 49, 50, 51, 52, 53, 54, 55, 56, 57, 58, 59, 60, 61, 62, 63, 64, 65, 66, 67, 68, 69, 70, 71, 72, 73, 74, 75, 76, 77, 78, 79], [79])])
def wardenlaw03_TnumSets.B4 : List Nat := [0, 1, 3, 7, 7, 31, 63, 7, 7, 391, 903, 2047, 4095, 8191, 16383, 16383, 65535, 16383, 16383, 524287, 1048575, 2097151, 4194303, 8388607, 8388607, 33554431, 8388607, 8388607, 268435455, 536870911, 1073741823, 2147483647, 4294967295, 8589934591, 4294967295, 34359738367, 68719476735, 137438953471, 274877906943, 549755813887, 549755813887, 2199023255551, 549755813887, 549755813887, 17592186044415, 35184372088831, 70368744177663, 140737488355327, 281474976710655, 281474976710655, 1125899906842623, 281474976710655, 281474976710655, 9007199254740991, 18014398509481983, 36028797018963967, 72057594037927935, 144115188075855871, 144115188075855871, 576460752303423487, 1152921504606846975, 2305843009213693951, 4611686018427387903, 4611686018427387903, 18446744073709551615, 36893488147419103231, 73786976294838206463, 147573952589676412927, 147573952589676412927, 442721857769029238783, 1180591620717411303423, 147573952589676412927, 147573952589676412927, 4869940435459321626623, 18889465931478580854783, 37778931862957161709567, 75557863725914323419135, 151115727451828646838271, 302231454903657293676543, 604462909807314587353087, 1208925819614629174706175]
theorem wardenlaw03_TnumSets.tab4 : rtab .any (opsOf Try.f3 4) = wardenlaw03_TnumSets.T4 := by kernel_rfl
theorem wardenlaw03_TnumSets.bits4 : waitsOk wardenlaw03_TnumSets.T4.2 wardenlaw03_TnumSets.B4 = true := by kernel_rfl
set_option maxHeartbeats 8000000 in
set_option maxRecDepth 100000 in
theorem wardenlaw03_TnumSets.calls (k : Nat) (a0 : Int) (a1 : Int) (a2 : Int) (a3 : Int) (a4 : Int) (a5 : Int) (r : Bool) (w : World) (hr_ : Aside0 (r = true)) (h : wardenlaw03_TnumSets.f k a0 a1 a2 a3 a4 a5 = some r) :
  Calls Try.prog 3 #[.int .u64 a0, .int .u64 a1, .int .u64 a2, .int .u64 a3, .int .u64 a4, .int .u8 a5] w fun e w' => e = .returned (.bool r) ∧ Below w.heap.size w w' := by
 have hu24 := Try.underlying24
 have HB := am (Below.refl w.heap.size w)
 have H : ((wardenlaw03_of.f a0 a1).bind fun bt226 => ((wardenlaw03_of.f a2 a3).bind fun bt228 => ((tnum_Meet.f bt226.1 bt226.2 bt228.1 bt228.2).bind fun bt232 => ((wardenref03_Meet.f k bt226.1 bt226.2 bt228.1 bt228.2).bind fun bt236 => ((tnum_May.f bt226.1 bt226.2).bind fun t240 => (if t240 = true then ((tnum_May.f a0 a1).bind fun t241 => (if (t241 == ((Go.bits .and .u64 a0 a1) == 0)) = true then ((tnum_Has.f bt226.1 bt226.2 a4).bind fun t242 => ((wardenref03_Has.f k bt226.1 bt226.2 a4).bind fun t243 => (if (t242 == t243) = true then ((tnum_In.f bt226.1 bt226.2 bt228.1 bt228.2).bind fun t244 => ((wardenref03_In.f k bt226.1 bt226.2 bt228.1 bt228.2).bind fun t245 => (if (t244 == t245) = true then ((tnum_Const.f a4).bind fun bt246 => ((wardenlaw03_of.f a4 0).bind fun bt248 => (if (bt246.1 == bt248.1 && (bt246.2 == bt248.2)) = true then ((tnum_Range.f k a0 a2).bind fun bt250 => ((wardenref03_Range.f k a0 a2).bind fun bt252 => (if (bt250.1 == bt252.1 && (bt250.2 == bt252.2)) = true then ((tnum_Join.f bt226.1 bt226.2 bt228.1 bt228.2).bind fun bt254 => ((wardenref03_Bits.f k bt226.1 bt226.2 bt228.1 bt228.2 0).bind fun bt256 => (if (bt254.1 == bt256.1 && (bt254.2 == bt256.2)) = true then (if (bt232.1 == bt236.1 && (bt232.2.1 == bt236.2.1)) = true then (if (bt232.2.2 == bt236.2.2) = true then ((tnum_Low.f bt226.1 bt226.2 (IntKind.u64.wrap (a5))).bind fun bt258 => ((wardenref03_Low.f k bt226.1 bt226.2 (IntKind.u64.wrap (a5))).bind fun bt260 => (if (bt258.1 == bt260.1 && (bt258.2 == bt260.2)) = true then ((wardenlaw03_works.f k).bind fun t262 => (some t262)) else (some false)))) else (some false)) else (some false)) else (some false)))) else (some false)))) else (some false)))) else (some false)))) else (some false)))) else (some false))) else (some false))))))) = some r := h
 clear h
 replace H := Option.bind_eq_some_iff.mp H
 obtain ⟨⟨t226, t227⟩, A70, H⟩ := H
 try dsimp only at H
 have A7 := am A70
 clear A70
 replace H := Option.bind_eq_some_iff.mp H
 obtain ⟨⟨t228, t229⟩, A80, H⟩ := H
 try dsimp only at H
 have A8 := am A80
 clear A80
 replace H := Option.bind_eq_some_iff.mp H
 obtain ⟨⟨t232, t233, t234⟩, A90, H⟩ := H
 try dsimp only at H
 have A9 := am A90
 clear A90
 replace H := Option.bind_eq_some_iff.mp H
 obtain ⟨⟨t236, t237, t238⟩, A100, H⟩ := H
 try dsimp only at H
 have A10 := am A100
 clear A100
 replace H := Option.bind_eq_some_iff.mp H
 obtain ⟨t240, A110, H⟩ := H
 try dsimp only at H
 have A11 := am A110
 clear A110
 by_cases c12 : t240 = true
 ·subst c12
  have H1 : ((tnum_May.f a0 a1).bind fun t241 => (if (t241 == ((Go.bits .and .u64 a0 a1) == 0)) = true then ((tnum_Has.f t226 t227 a4).bind fun t242 => ((wardenref03_Has.f k t226 t227 a4).bind fun t243 => (if (t242 == t243) = true then ((tnum_In.f t226 t227 t228 t229).bind fun t244 => ((wardenref03_In.f k t226 t227 t228 t229).bind fun t245 => (if (t244 == t245) = true then ((tnum_Const.f a4).bind fun bt246 => ((wardenlaw03_of.f a4 0).bind fun bt248 => (if (bt246.1 == bt248.1 && (bt246.2 == bt248.2)) = true then ((tnum_Range.f k a0 a2).bind fun bt250 => ((wardenref03_Range.f k a0 a2).bind fun bt252 => (if (bt250.1 == bt252.1 && (bt250.2 == bt252.2)) = true then ((tnum_Join.f t226 t227 t228 t229).bind fun bt254 => ((wardenref03_Bits.f k t226 t227 t228 t229 0).bind fun bt256 => (if (bt254.1 == bt256.1 && (bt254.2 == bt256.2)) = true then (if (t232 == t236 && (t233 == t237)) = true then (if (t234 == t238) = true then ((tnum_Low.f t226 t227 (IntKind.u64.wrap (a5))).bind fun bt258 => ((wardenref03_Low.f k t226 t227 (IntKind.u64.wrap (a5))).bind fun bt260 => (if (bt258.1 == bt260.1 && (bt258.2 == bt260.2)) = true then ((wardenlaw03_works.f k).bind fun t262 => (some t262)) else (some false)))) else (some false)) else (some false)) else (some false)))) else (some false)))) else (some false)))) else (some false)))) else (some false)))) else (some false))) = some r := by rw [if_pos rfl] at H; exact H
  clear H
  have H := H1
  clear H1
  replace H := Option.bind_eq_some_iff.mp H
  obtain ⟨t241, A130, H⟩ := H
  try dsimp only at H
  have A13 := am A130
  clear A130
  by_cases c14 : (t241 == ((Go.bits .and .u64 a0 a1) == 0)) = true
  ·rw [if_pos c14] at H
   have c14b0 : (t241 == ((Go.bits .and .u64 a0 a1) == 0)) = true := c14
   (try (have c14b1 : decide (t241 = ((Go.bits .and .u64 a0 a1) == 0)) = true := by simpa using c14))
   (try (have c14b2 : (t241 == ((Go.bits .and .u64 a0 a1) == 0)) = true := by simpa using c14))
   clear c14
   replace H := Option.bind_eq_some_iff.mp H
   obtain ⟨t242, A150, H⟩ := H
   try dsimp only at H
   have A15 := am A150
   clear A150
   replace H := Option.bind_eq_some_iff.mp H
   obtain ⟨t243, A160, H⟩ := H
   try dsimp only at H
   have A16 := am A160
   clear A160
   by_cases c17 : (t242 == t243) = true
   ·rw [if_pos c17] at H
    have c17b0 : (t242 == t243) = true := c17
    (try (have c17b1 : decide (t242 = t243) = true := by simpa using c17))
    (try (have c17b2 : (t242 == t243) = true := by simpa using c17))
    clear c17
    replace H := Option.bind_eq_some_iff.mp H
    obtain ⟨t244, A180, H⟩ := H
    try dsimp only at H
    have A18 := am A180
    clear A180
    replace H := Option.bind_eq_some_iff.mp H
    obtain ⟨t245, A190, H⟩ := H
    try dsimp only at H
    have A19 := am A190
    clear A190
    by_cases c20 : (t244 == t245) = true
    ·rw [if_pos c20] at H
     have c20b0 : (t244 == t245) = true := c20
     (try (have c20b1 : decide (t244 = t245) = true := by simpa using c20))
     (try (have c20b2 : (t244 == t245) = true := by simpa using c20))
     clear c20
     replace H := Option.bind_eq_some_iff.mp H
     obtain ⟨⟨t246, t247⟩, A210, H⟩ := H
     try dsimp only at H
     have A21 := am A210
     clear A210
     replace H := Option.bind_eq_some_iff.mp H
     obtain ⟨⟨t248, t249⟩, A220, H⟩ := H
     try dsimp only at H
     have A22 := am A220
     clear A220
     by_cases c23 : (t246 == t248 && (t247 == t249)) = true
     ·rw [if_pos c23] at H
      have c23b0 : (t246 == t248 && (t247 == t249)) = true := c23
      (try (have c23b1 : decide (t246 = t248 && (t247 == t249)) = true := by simpa using c23))
      (try (have c23b2 : (t246 == t248 && (t247 == t249)) = true := by simpa using c23))
      clear c23
      replace H := Option.bind_eq_some_iff.mp H
      obtain ⟨⟨t250, t251⟩, A240, H⟩ := H
      try dsimp only at H
      have A24 := am A240
      clear A240
      replace H := Option.bind_eq_some_iff.mp H
      obtain ⟨⟨t252, t253⟩, A250, H⟩ := H
      try dsimp only at H
      have A25 := am A250
      clear A250
      by_cases c26 : (t250 == t252 && (t251 == t253)) = true
      ·rw [if_pos c26] at H
       have c26b0 : (t250 == t252 && (t251 == t253)) = true := c26
       (try (have c26b1 : decide (t250 = t252 && (t251 == t253)) = true := by simpa using c26))
       (try (have c26b2 : (t250 == t252 && (t251 == t253)) = true := by simpa using c26))
       clear c26
       replace H := Option.bind_eq_some_iff.mp H
       obtain ⟨⟨t254, t255⟩, A270, H⟩ := H
       try dsimp only at H
       have A27 := am A270
       clear A270
       replace H := Option.bind_eq_some_iff.mp H
       obtain ⟨⟨t256, t257⟩, A280, H⟩ := H
       try dsimp only at H
       have A28 := am A280
       clear A280
       by_cases c29 : (t254 == t256 && (t255 == t257)) = true
       ·rw [if_pos c29] at H
        have c29b0 : (t254 == t256 && (t255 == t257)) = true := c29
        (try (have c29b1 : decide (t254 = t256 && (t255 == t257)) = true := by simpa using c29))
        (try (have c29b2 : (t254 == t256 && (t255 == t257)) = true := by simpa using c29))
        clear c29
        by_cases c30 : (t232 == t236 && (t233 == t237)) = true
        ·rw [if_pos c30] at H
         have c30b0 : (t232 == t236 && (t233 == t237)) = true := c30
         (try (have c30b1 : decide (t232 = t236 && (t233 == t237)) = true := by simpa using c30))
         (try (have c30b2 : (t232 == t236 && (t233 == t237)) = true := by simpa using c30))
         clear c30
         by_cases c31 : (t234 == t238) = true
         ·rw [if_pos c31] at H
          have c31b0 : (t234 == t238) = true := c31
          (try (have c31b1 : decide (t234 = t238) = true := by simpa using c31))
          (try (have c31b2 : (t234 == t238) = true := by simpa using c31))
          clear c31
          replace H := Option.bind_eq_some_iff.mp H
          obtain ⟨⟨t258, t259⟩, A320, H⟩ := H
          try dsimp only at H
          have A32 := am A320
          clear A320
          replace H := Option.bind_eq_some_iff.mp H
          obtain ⟨⟨t260, t261⟩, A330, H⟩ := H
          try dsimp only at H
          have A33 := am A330
          clear A330
          by_cases c34 : (t258 == t260 && (t259 == t261)) = true
          ·rw [if_pos c34] at H
           have c34b0 : (t258 == t260 && (t259 == t261)) = true := c34
           (try (have c34b1 : decide (t258 = t260 && (t259 == t261)) = true := by simpa using c34))
           (try (have c34b2 : (t258 == t260 && (t259 == t261)) = true := by simpa using c34))
           clear c34
           replace H := Option.bind_eq_some_iff.mp H
           obtain ⟨t262, A350, H⟩ := H
           try dsimp only at H
           have A35 := am A350
           clear A350
           obtain rfl := Option.some.inj H
           go_enter Try.func3, Try.ntmps3
           try go_wp2_with (first | ((with_reducible refine gate_callee (f := 9) rfl ?_); refine goesL_ (some 21) rfl rfl Try.func9 (by kernel_rfl) rfl #[.int .u64 a0, .int .u64 a1] rfl (by (try simp only [List.map_toArray, List.map_cons, List.map_nil]); first | done | rfl) ?_; (with_reducible refine (wardenlaw03_of.calls a0 a1 t226 t227 _ A7.out).mono ?_); rintro e w36 ⟨rfl, hb⟩; refine ⟨_, rfl, ?_⟩; have n0_ := am (below_step HB.out hb); clear HB; have HB := n0_; clear n0_; (try clear hb); (try clear hb2); (try clear hk); (try clear hi)) | ((with_reducible refine gate_callee (f := 9) rfl ?_); refine goesL_ (some 24) rfl rfl Try.func9 (by kernel_rfl) rfl #[.int .u64 a2, .int .u64 a3] rfl (by (try simp only [List.map_toArray, List.map_cons, List.map_nil]); first | done | rfl) ?_; (with_reducible refine (wardenlaw03_of.calls a2 a3 t228 t229 _ A8.out).mono ?_); rintro e w37 ⟨rfl, hb⟩; refine ⟨_, rfl, ?_⟩; have n0_ := am (below_step HB.out hb); clear HB; have HB := n0_; clear n0_; (try clear hb); (try clear hb2); (try clear hk); (try clear hi)) | ((with_reducible refine gate_dst (N := 13) rfl ?_); refine box_event ?hg (N := 13) ?hd (cs := #[.int .u64 0, .int .u64 0]) (t := 24) ?hr ?_; (case hd => rfl); (case hg => rfl); (case hr => first | (go_simp; done) | (go_simp; rfl)); intro gb230 hg w38 hbox hb; have n0_ := am (below_step HB.out hb); have n1_ := am (hbox); have n2_ := am ((by rw [hg]; exact (below_size HB.out) : w.heap.size ≤ gb230)); have n3_ := am ((by rw [hg]; exact (below_size HB.out) : w.heap.size ≤ gb230)); clear HB; have HB := n0_; have BK230 := n1_; have GW230 := n2_; have GE230 := n3_; clear n0_ n1_ n2_ n3_; clear hb hbox hg) | ((with_reducible refine gate_dst (N := 14) rfl ?_); refine box_event ?hg (N := 14) ?hd (cs := #[.int .u64 0, .int .u64 0]) (t := 24) ?hr ?_; (case hd => rfl); (case hg => rfl); (case hr => first | (go_simp; done) | (go_simp; rfl)); intro gb231 hg w39 hbox hb; have n0_ := am (blk_below BK230.out hb); have n1_ := am (below_step (by repeat (first | exact HB.out | refine below_set ?_ GE230.out)) hb); have n2_ := am (hbox); have n3_ := am ((by rw [hg]; exact (below_size (by repeat (first | exact HB.out | refine below_set ?_ GE230.out))) : w.heap.size ≤ gb231)); have n4_ := am ((by rw [hg]; exact (below_size (by repeat (first | exact HB.out | refine below_set ?_ GE230.out))) : w.heap.size ≤ gb231)); have n5_ := am ((by rw [hg]; exact Nat.ne_of_lt (blk_lt BK230.out) : gb230 ≠ gb231)); have n6_ := am ((by rw [hg]; exact Nat.ne_of_gt (blk_lt BK230.out) : gb231 ≠ gb230)); clear BK230; clear HB; have BK230 := n0_; have HB := n1_; have BK231 := n2_; have GW231 := n3_; have GE231 := n4_; have NB230_231 := n5_; have NB231_230 := n6_; clear n0_ n1_ n2_ n3_ n4_ n5_ n6_; clear hb hbox hg; have hnb40 := NB230_231.out; have hnc40 := NB231_230.out; have hcz41_0 : w39.cell? ⟨gb230, 0, none⟩ = some (.int .u64 0) := (blk_cell BK230.out 0).trans rfl; have hcz41_1 : w39.cell? ⟨gb230, 1, none⟩ = some (.int .u64 0) := (blk_cell BK230.out 1).trans rfl; have hfz41_0 := blk_frozen BK230.out 0; have hfz41_1 := blk_frozen BK230.out 1; have hcz42_0 : w39.cell? ⟨gb231, 0, none⟩ = some (.int .u64 0) := (blk_cell BK231.out 0).trans rfl; have hcz42_1 : w39.cell? ⟨gb231, 1, none⟩ = some (.int .u64 0) := (blk_cell BK231.out 1).trans rfl; have hfz42_0 := blk_frozen BK231.out 0; have hfz42_1 := blk_frozen BK231.out 1) | ((with_reducible refine gate_callee (f := 10) rfl ?_); refine goesL_ (some 28) rfl rfl Try.func10 (by kernel_rfl) rfl #[.agg #[.int .u64 t226, .int .u64 t227], .agg #[.int .u64 t228, .int .u64 t229]] rfl (by (try simp only [List.map_toArray, List.map_cons, List.map_nil]); first | done | rfl) ?_; (with_reducible refine (tnum_Meet.calls t226 t227 t228 t229 t232 t233 t234 _ A9.out).mono ?_); rintro e w43 ⟨rfl, hb⟩; refine ⟨_, rfl, ?_⟩; have n0_ := am (blk_below (g := gb230) (o := .cells #[.int .u64 t226, .int .u64 t227] 24 (0, 0)) (by (with_reducible repeat (first | refine blk_drewN ?_ _ | refine blk_drew ?_ | refine blk_alloc ?_ _)); refine blk_far ?_ NB230_231.out _; (with_reducible repeat (first | refine blk_drewN ?_ _ | refine blk_drew ?_ | refine blk_alloc ?_ _)); refine blk_far ?_ NB230_231.out _; (with_reducible repeat (first | refine blk_drewN ?_ _ | refine blk_drew ?_ | refine blk_alloc ?_ _)); refine blk_put (cs := #[.int .u64 t226, .int .u64 0]) ?_ 1 _ rfl; (with_reducible repeat (first | refine blk_drewN ?_ _ | refine blk_drew ?_ | refine blk_alloc ?_ _)); refine blk_put (cs := #[.int .u64 0, .int .u64 0]) ?_ 0 _ rfl; (with_reducible repeat (first | refine blk_drewN ?_ _ | refine blk_drew ?_ | refine blk_alloc ?_ _)); exact BK230.out) hb); have n1_ := am (blk_below (g := gb231) (o := .cells #[.int .u64 t228, .int .u64 t229] 24 (0, 0)) (by (with_reducible repeat (first | refine blk_drewN ?_ _ | refine blk_drew ?_ | refine blk_alloc ?_ _)); refine blk_put (cs := #[.int .u64 t228, .int .u64 0]) ?_ 1 _ rfl; (with_reducible repeat (first | refine blk_drewN ?_ _ | refine blk_drew ?_ | refine blk_alloc ?_ _)); refine blk_put (cs := #[.int .u64 0, .int .u64 0]) ?_ 0 _ rfl; (with_reducible repeat (first | refine blk_drewN ?_ _ | refine blk_drew ?_ | refine blk_alloc ?_ _)); refine blk_far ?_ NB231_230.out _; (with_reducible repeat (first | refine blk_drewN ?_ _ | refine blk_drew ?_ | refine blk_alloc ?_ _)); refine blk_far ?_ NB231_230.out _; (with_reducible repeat (first | refine blk_drewN ?_ _ | refine blk_drew ?_ | refine blk_alloc ?_ _)); exact BK231.out) hb); have n2_ := am (below_step (by repeat (first | exact HB.out | refine below_set ?_ GE230.out | refine below_set ?_ GE231.out)) hb); clear BK230; clear BK231; clear HB; have BK230 := n0_; have BK231 := n1_; have HB := n2_; clear n0_ n1_ n2_; (try clear hb); (try clear hb2); (try clear hk); (try clear hi)) | ((with_reducible refine gate_dst (N := 15) rfl ?_); refine box_event ?hg (N := 15) ?hd (cs := #[.int .u64 0, .int .u64 0]) (t := 24) ?hr ?_; (case hd => rfl); (case hg => rfl); (case hr => first | (go_simp; done) | (go_simp; rfl)); intro gb235 hg w44 hbox hb; have n0_ := am (blk_below BK230.out hb); have n1_ := am (blk_below BK231.out hb); have n2_ := am (below_step (by repeat (first | exact HB.out | refine below_set ?_ GE230.out | refine below_set ?_ GE231.out)) hb); have n3_ := am (hbox); have n4_ := am ((by rw [hg]; exact (below_size (by repeat (first | exact HB.out | refine below_set ?_ GE230.out | refine below_set ?_ GE231.out))) : w.heap.size ≤ gb235)); have n5_ := am ((by rw [hg]; exact (below_size (by repeat (first | exact HB.out | refine below_set ?_ GE230.out | refine below_set ?_ GE231.out))) : w.heap.size ≤ gb235)); have n6_ := am ((by rw [hg]; exact Nat.ne_of_lt (blk_lt BK230.out) : gb230 ≠ gb235)); have n7_ := am ((by rw [hg]; exact Nat.ne_of_gt (blk_lt BK230.out) : gb235 ≠ gb230)); have n8_ := am ((by rw [hg]; exact Nat.ne_of_lt (blk_lt BK231.out) : gb231 ≠ gb235)); have n9_ := am ((by rw [hg]; exact Nat.ne_of_gt (blk_lt BK231.out) : gb235 ≠ gb231)); clear BK230; clear BK231; clear HB; have BK230 := n0_; have BK231 := n1_; have HB := n2_; have BK235 := n3_; have GW235 := n4_; have GE235 := n5_; have NB230_235 := n6_; have NB235_230 := n7_; have NB231_235 := n8_; have NB235_231 := n9_; clear n0_ n1_ n2_ n3_ n4_ n5_ n6_ n7_ n8_ n9_; clear hb hbox hg; have hnb45 := NB235_230.out; have hnc45 := NB230_235.out; have hnb46 := NB235_231.out; have hnc46 := NB231_235.out; have hcz47_0 : w44.cell? ⟨gb235, 0, none⟩ = some (.int .u64 0) := (blk_cell BK235.out 0).trans rfl; have hcz47_1 : w44.cell? ⟨gb235, 1, none⟩ = some (.int .u64 0) := (blk_cell BK235.out 1).trans rfl; have hfz47_0 := blk_frozen BK235.out 0; have hfz47_1 := blk_frozen BK235.out 1; have hcz48_0 : w44.cell? ⟨gb230, 0, none⟩ = some (.int .u64 t226) := (blk_cell BK230.out 0).trans rfl; have hcz48_1 : w44.cell? ⟨gb230, 1, none⟩ = some (.int .u64 t227) := (blk_cell BK230.out 1).trans rfl; have hfz48_0 := blk_frozen BK230.out 0; have hfz48_1 := blk_frozen BK230.out 1; have hcz49_0 : w44.cell? ⟨gb231, 0, none⟩ = some (.int .u64 t228) := (blk_cell BK231.out 0).trans rfl; have hcz49_1 : w44.cell? ⟨gb231, 1, none⟩ = some (.int .u64 t229) := (blk_cell BK231.out 1).trans rfl; have hfz49_0 := blk_frozen BK231.out 0; have hfz49_1 := blk_frozen BK231.out 1) | ((with_reducible refine gate_callee (f := 11) rfl ?_); refine goesL_ (some 34) rfl rfl Try.func11 (by kernel_rfl) rfl #[.agg #[.int .u64 t226, .int .u64 t227], .agg #[.int .u64 t228, .int .u64 t229]] rfl (by (try simp only [List.map_toArray, List.map_cons, List.map_nil]); first | done | rfl) ?_; (with_reducible refine (wardenref03_Meet.calls k t226 t227 t228 t229 t236 t237 t238 _ A10.out).mono ?_); rintro e w50 ⟨rfl, hb⟩; refine ⟨_, rfl, ?_⟩; have n0_ := am (blk_below (g := gb230) (o := .cells #[.int .u64 t226, .int .u64 t227] 24 (0, 0)) (by (with_reducible repeat (first | refine blk_drewN ?_ _ | refine blk_drew ?_ | refine blk_alloc ?_ _)); refine blk_far ?_ NB230_235.out _; (with_reducible repeat (first | refine blk_drewN ?_ _ | refine blk_drew ?_ | refine blk_alloc ?_ _)); refine blk_far ?_ NB230_235.out _; (with_reducible repeat (first | refine blk_drewN ?_ _ | refine blk_drew ?_ | refine blk_alloc ?_ _)); exact BK230.out) hb); have n1_ := am (blk_below (g := gb231) (o := .cells #[.int .u64 t228, .int .u64 t229] 24 (0, 0)) (by (with_reducible repeat (first | refine blk_drewN ?_ _ | refine blk_drew ?_ | refine blk_alloc ?_ _)); refine blk_far ?_ NB231_235.out _; (with_reducible repeat (first | refine blk_drewN ?_ _ | refine blk_drew ?_ | refine blk_alloc ?_ _)); refine blk_far ?_ NB231_235.out _; (with_reducible repeat (first | refine blk_drewN ?_ _ | refine blk_drew ?_ | refine blk_alloc ?_ _)); exact BK231.out) hb); have n2_ := am (blk_below (g := gb235) (o := .cells #[.int .u64 t232, .int .u64 t233] 24 (0, 0)) (by (with_reducible repeat (first | refine blk_drewN ?_ _ | refine blk_drew ?_ | refine blk_alloc ?_ _)); refine blk_put (cs := #[.int .u64 t232, .int .u64 0]) ?_ 1 _ rfl; (with_reducible repeat (first | refine blk_drewN ?_ _ | refine blk_drew ?_ | refine blk_alloc ?_ _)); refine blk_put (cs := #[.int .u64 0, .int .u64 0]) ?_ 0 _ rfl; (with_reducible repeat (first | refine blk_drewN ?_ _ | refine blk_drew ?_ | refine blk_alloc ?_ _)); exact BK235.out) hb); have n3_ := am (below_step (by repeat (first | exact HB.out | refine below_set ?_ GE230.out | refine below_set ?_ GE231.out | refine below_set ?_ GE235.out)) hb); clear BK230; clear BK231; clear BK235; clear HB; have BK230 := n0_; have BK231 := n1_; have BK235 := n2_; have HB := n3_; clear n0_ n1_ n2_ n3_; (try clear hb); (try clear hb2); (try clear hk); (try clear hi)) | ((with_reducible refine gate_dst (N := 17) rfl ?_); refine box_event ?hg (N := 17) ?hd (cs := #[.int .u64 0, .int .u64 0]) (t := 24) ?hr ?_; (case hd => rfl); (case hg => rfl); (case hr => first | (go_simp; done) | (go_simp; rfl)); intro gb239 hg w51 hbox hb; have n0_ := am (blk_below BK230.out hb); have n1_ := am (blk_below BK231.out hb); have n2_ := am (blk_below BK235.out hb); have n3_ := am (below_step (by repeat (first | exact HB.out | refine below_set ?_ GE230.out | refine below_set ?_ GE231.out | refine below_set ?_ GE235.out)) hb); have n4_ := am (hbox); have n5_ := am ((by rw [hg]; exact (below_size (by repeat (first | exact HB.out | refine below_set ?_ GE230.out | refine below_set ?_ GE231.out | refine below_set ?_ GE235.out))) : w.heap.size ≤ gb239)); have n6_ := am ((by rw [hg]; exact (below_size (by repeat (first | exact HB.out | refine below_set ?_ GE230.out | refine below_set ?_ GE231.out | refine below_set ?_ GE235.out))) : w.heap.size ≤ gb239)); have n7_ := am ((by rw [hg]; exact Nat.ne_of_lt (blk_lt BK230.out) : gb230 ≠ gb239)); have n8_ := am ((by rw [hg]; exact Nat.ne_of_gt (blk_lt BK230.out) : gb239 ≠ gb230)); have n9_ := am ((by rw [hg]; exact Nat.ne_of_lt (blk_lt BK231.out) : gb231 ≠ gb239)); have n10_ := am ((by rw [hg]; exact Nat.ne_of_gt (blk_lt BK231.out) : gb239 ≠ gb231)); have n11_ := am ((by rw [hg]; exact Nat.ne_of_lt (blk_lt BK235.out) : gb235 ≠ gb239)); have n12_ := am ((by rw [hg]; exact Nat.ne_of_gt (blk_lt BK235.out) : gb239 ≠ gb235)); clear BK230; clear BK231; clear BK235; clear HB; have BK230 := n0_; have BK231 := n1_; have BK235 := n2_; have HB := n3_; have BK239 := n4_; have GW239 := n5_; have GE239 := n6_; have NB230_239 := n7_; have NB239_230 := n8_; have NB231_239 := n9_; have NB239_231 := n10_; have NB235_239 := n11_; have NB239_235 := n12_; clear n0_ n1_ n2_ n3_ n4_ n5_ n6_ n7_ n8_ n9_ n10_ n11_ n12_; clear hb hbox hg; have hnb52 := NB239_230.out; have hnc52 := NB230_239.out; have hnb53 := NB239_231.out; have hnc53 := NB231_239.out; have hnb54 := NB239_235.out; have hnc54 := NB235_239.out; have hcz55_0 : w51.cell? ⟨gb239, 0, none⟩ = some (.int .u64 0) := (blk_cell BK239.out 0).trans rfl; have hcz55_1 : w51.cell? ⟨gb239, 1, none⟩ = some (.int .u64 0) := (blk_cell BK239.out 1).trans rfl; have hfz55_0 := blk_frozen BK239.out 0; have hfz55_1 := blk_frozen BK239.out 1))
           have n0_ : Aside0 (((w51.setCell ⟨gb239, 0, none⟩ (.int .u64 t236)).setCell ⟨gb239, 1, none⟩ (.int .u64 t237)).heap[gb230]? = some (.cells #[.int .u64 t226, .int .u64 t227] 24 (0, 0))) := ⟨by (with_reducible repeat (first | refine blk_drewN ?_ _ | refine blk_drew ?_ | refine blk_alloc ?_ _)); refine blk_far ?_ NB230_239.out _; (with_reducible repeat (first | refine blk_drewN ?_ _ | refine blk_drew ?_ | refine blk_alloc ?_ _)); refine blk_far ?_ NB230_239.out _; (with_reducible repeat (first | refine blk_drewN ?_ _ | refine blk_drew ?_ | refine blk_alloc ?_ _)); exact BK230.out⟩
           have n1_ : Aside0 (((w51.setCell ⟨gb239, 0, none⟩ (.int .u64 t236)).setCell ⟨gb239, 1, none⟩ (.int .u64 t237)).heap[gb231]? = some (.cells #[.int .u64 t228, .int .u64 t229] 24 (0, 0))) := ⟨by (with_reducible repeat (first | refine blk_drewN ?_ _ | refine blk_drew ?_ | refine blk_alloc ?_ _)); refine blk_far ?_ NB231_239.out _; (with_reducible repeat (first | refine blk_drewN ?_ _ | refine blk_drew ?_ | refine blk_alloc ?_ _)); refine blk_far ?_ NB231_239.out _; (with_reducible repeat (first | refine blk_drewN ?_ _ | refine blk_drew ?_ | refine blk_alloc ?_ _)); exact BK231.out⟩
           have n2_ : Aside0 (((w51.setCell ⟨gb239, 0, none⟩ (.int .u64 t236)).setCell ⟨gb239, 1, none⟩ (.int .u64 t237)).heap[gb235]? = some (.cells #[.int .u64 t232, .int .u64 t233] 24 (0, 0))) := ⟨by (with_reducible repeat (first | refine blk_drewN ?_ _ | refine blk_drew ?_ | refine blk_alloc ?_ _)); refine blk_far ?_ NB235_239.out _; (with_reducible repeat (first | refine blk_drewN ?_ _ | refine blk_drew ?_ | refine blk_alloc ?_ _)); refine blk_far ?_ NB235_239.out _; (with_reducible repeat (first | refine blk_drewN ?_ _ | refine blk_drew ?_ | refine blk_alloc ?_ _)); exact BK235.out⟩
           have n3_ : Aside0 (((w51.setCell ⟨gb239, 0, none⟩ (.int .u64 t236)).setCell ⟨gb239, 1, none⟩ (.int .u64 t237)).heap[gb239]? = some (.cells #[.int .u64 t236, .int .u64 t237] 24 (0, 0))) := ⟨by (with_reducible repeat (first | refine blk_drewN ?_ _ | refine blk_drew ?_ | refine blk_alloc ?_ _)); refine blk_put (cs := #[.int .u64 t236, .int .u64 0]) ?_ 1 _ rfl; (with_reducible repeat (first | refine blk_drewN ?_ _ | refine blk_drew ?_ | refine blk_alloc ?_ _)); refine blk_put (cs := #[.int .u64 0, .int .u64 0]) ?_ 0 _ rfl; (with_reducible repeat (first | refine blk_drewN ?_ _ | refine blk_drew ?_ | refine blk_alloc ?_ _)); exact BK239.out⟩
           have n4_ : Aside0 (Below w.heap.size w ((w51.setCell ⟨gb239, 0, none⟩ (.int .u64 t236)).setCell ⟨gb239, 1, none⟩ (.int .u64 t237))) := ⟨by repeat (first | (with_reducible first | exact HB.out | apply below_alloc | apply pw_below_drewN | apply below_drew1 | refine below_set ?_ GE230.out | refine below_set ?_ GE231.out | refine below_set ?_ GE235.out | refine below_set ?_ GE239.out) | exact HB.out)⟩
           (try clear BK230)
           (try clear BK231)
           (try clear BK235)
           (try clear BK239)
           (try clear HB)
           generalize ((w51.setCell ⟨gb239, 0, none⟩ (.int .u64 t236)).setCell ⟨gb239, 1, none⟩ (.int .u64 t237)) = w56 at n0_ n1_ n2_ n3_ n4_ ⊢
           have BK230 := n0_
           have BK231 := n1_
           have BK235 := n2_
           have BK239 := n3_
           have HB := n4_
           clear n0_ n1_ n2_ n3_ n4_
           have n0_ := am (blk_drew BK230.out)
           have n1_ := am (blk_drew BK231.out)
           have n2_ := am (blk_drew BK235.out)
           have n3_ := am (blk_drew BK239.out)
           have n4_ := am (below_drew1 HB.out)
           clear BK230
           clear BK231
           clear BK235
           clear BK239
           clear HB
           have BK230 := n0_
           have BK231 := n1_
           have BK235 := n2_
           have BK239 := n3_
           have HB := n4_
           clear n0_ n1_ n2_ n3_ n4_
           refine start_ (n := 81) (S := fun w' => w'.cell? ⟨gb230, 0, none⟩ = some (.int .u64 t226) ∧ w'.cell? ⟨gb230, 1, none⟩ = some (.int .u64 t227) ∧ w'.cell? ⟨gb231, 0, none⟩ = some (.int .u64 t228) ∧ w'.cell? ⟨gb231, 1, none⟩ = some (.int .u64 t229) ∧ w'.cell? ⟨gb235, 0, none⟩ = some (.int .u64 t232) ∧ w'.cell? ⟨gb235, 1, none⟩ = some (.int .u64 t233) ∧ w'.cell? ⟨gb239, 0, none⟩ = some (.int .u64 t236) ∧ w'.cell? ⟨gb239, 1, none⟩ = some (.int .u64 t237)) (ds := []) (ar 81 0) (by kernel_rfl) rfl rfl ⟨(blk_cell BK230.out 0).trans rfl, (blk_cell BK230.out 1).trans rfl, (blk_cell BK231.out 0).trans rfl, (blk_cell BK231.out 1).trans rfl, (blk_cell BK235.out 0).trans rfl, (blk_cell BK235.out 1).trans rfl, (blk_cell BK239.out 0).trans rfl, (blk_cell BK239.out 1).trans rfl⟩ (fun hHeld => ?_); refine with_tabW wardenlaw03_TnumSets.tab4 wardenlaw03_TnumSets.bits4 (fun HT_ HW_ => ?_)
           generalize w56.drew = w57 at BK230 BK231 BK235 BK239 HB hHeld ⊢
           refine take_ (i := 0) (N := some 37) (v := ?_) (a' := ?_) (ar 81 1) rfl rfl (take_ofW HT_.out HW_.out (by kernel_rfl)) (fun _ _ _ h => h) (Or.inl ⟨by rfl, ?_⟩) hHeld ?_ ?_
           rotate_left
           ·rintro w' ⟨s0, s1, s2, s3, s4, s5, s6, s7⟩
            go_simp
            with_reducible rfl
           rotate_left
           ·simp only [Act.put, q1, q2, q3, i64_w, i32_w]
            rfl
           refine one_ (i := 1) (N := some 38) (ar 81 3) rfl rfl (one_of HT_.out (by kernel_rfl)) (by decide) (fun K hK => ?_)
           refine goes_ Try.func12 (by kernel_rfl) rfl #[.agg #[.int .u64 t226, .int .u64 t227]] (by rfl) rfl rfl (by (try simp only [List.map_toArray, List.map_cons, List.map_nil]); first | done | rfl) ?_
           with_reducible refine (tnum_May.calls t226 t227 true _ A11.out).mono ?_
           rintro e w58 ⟨rfl, hb⟩
           refine ⟨_, rfl, ?_⟩
           have n0_ := am (blk_below BK230.out hb)
           have n1_ := am (blk_below BK231.out hb)
           have n2_ := am (blk_below BK235.out hb)
           have n3_ := am (blk_below BK239.out hb)
           have n4_ := am (below_step (by repeat (first | exact HB.out | refine below_set ?_ GE230.out | refine below_set ?_ GE231.out | refine below_set ?_ GE235.out | refine below_set ?_ GE239.out)) hb)
           clear BK230
           clear BK231
           clear BK235
           clear BK239
           clear HB
           have BK230 := n0_
           have BK231 := n1_
           have BK235 := n2_
           have BK239 := n3_
           have HB := n4_
           clear n0_ n1_ n2_ n3_ n4_
           (try clear hb)
           (try clear hb2)
           (try clear hk)
           (try clear hi)
           refine hK.out _ _ ⟨(blk_cell BK230.out 0).trans rfl, (blk_cell BK230.out 1).trans rfl, (blk_cell BK231.out 0).trans rfl, (blk_cell BK231.out 1).trans rfl, (blk_cell BK235.out 0).trans rfl, (blk_cell BK235.out 1).trans rfl, (blk_cell BK239.out 0).trans rfl, (blk_cell BK239.out 1).trans rfl⟩ (fun hHeld => ?_)
           clear hK K
           refine norm_ (a' := ?_) ?_ ?_
           rotate_left
           ·show Act.put _ (some 38) _ = _
            simp only [Act.put, q1, q2, q3, i64_w, i32_w]
            rfl
           refine pure_ (i := 2) (N := some 39) (v := ?_) (a' := ?_) (ar 81 7) rfl rfl (any_of HT_.out (by kernel_rfl)) (fun _ _ _ h => h) (Or.inl ⟨by rfl, ?_⟩) ?_ ?_
           rotate_left
           ·intro w'
            go_simp
            with_reducible rfl
           rotate_left
           ·simp only [Act.put, q1, q2, q3, i64_w, i32_w]
            rfl
           refine pure_ (i := 3) (N := some 40) (v := ?_) (a' := ?_) (ar 81 15) rfl rfl (any_of HT_.out (by kernel_rfl)) (fun _ _ _ h => h) (Or.inl ⟨by rfl, ?_⟩) ?_ ?_
           rotate_left
           ·intro w'
            go_simp
            with_reducible rfl
           rotate_left
           ·simp only [Act.put, q1, q2, q3, i64_w, i32_w]
            rfl
           refine pure_ (i := 4) (N := some 41) (v := ?_) (a' := ?_) (ar 81 31) rfl rfl (any_of HT_.out (by kernel_rfl)) (fun _ _ _ h => h) (Or.inl ⟨by rfl, ?_⟩) ?_ ?_
           rotate_left
           ·intro w'
            go_simp
            with_reducible rfl
           rotate_left
           ·simp only [Act.put, q1, q2, q3, i64_w, i32_w]
            rfl
           refine pure_ (i := 5) (N := some 42) (v := ?_) (a' := ?_) (ar 81 63) rfl rfl (any_of HT_.out (by kernel_rfl)) (fun _ _ _ h => h) (Or.inl ⟨by rfl, ?_⟩) ?_ ?_
           rotate_left
           ·intro w'
            go_simp
            with_reducible rfl
           rotate_left
           ·simp only [Act.put, q1, q2, q3, i64_w, i32_w]
            rfl
           refine pure_ (i := 7) (N := some 44) (v := ?_) (a' := ?_) (ar 81 191) rfl rfl (any_of HT_.out (by kernel_rfl)) (fun _ _ _ h => h) (Or.inl ⟨by rfl, ?_⟩) ?_ ?_
           rotate_left
           ·intro w'
            go_simp
            with_reducible rfl
           rotate_left
           ·simp only [Act.put, q1, q2, q3, i64_w, i32_w]
            rfl
           refine pure_ (i := 8) (N := some 45) (v := ?_) (a' := ?_) (ar 81 447) rfl rfl (any_of HT_.out (by kernel_rfl)) (fun _ _ _ h => h) (Or.inl ⟨by rfl, ?_⟩) ?_ ?_
           rotate_left
           ·intro w'
            go_simp
            with_reducible rfl
           rotate_left
           ·simp only [Act.put, q1, q2, q3, i64_w, i32_w]
            rfl
           refine pure_ (i := 9) (N := some 46) (v := ?_) (a' := ?_) (ar 81 959) rfl rfl (any_of HT_.out (by kernel_rfl)) (fun _ _ _ h => h) (Or.inl ⟨by rfl, ?_⟩) ?_ ?_
           rotate_left
           ·intro w'
            go_simp
            with_reducible rfl
           rotate_left
           ·simp only [Act.put, q1, q2, q3, i64_w, i32_w]
            rfl
           refine pure_ (i := 10) (N := some 47) (v := ?_) (a' := ?_) (ar 81 1983) rfl rfl (any_of HT_.out (by kernel_rfl)) (fun _ _ _ h => h) (Or.inl ⟨by rfl, ?_⟩) ?_ ?_
           rotate_left
           ·intro w'
            go_simp
            with_reducible rfl
           rotate_left
           ·simp only [Act.put, q1, q2, q3, i64_w, i32_w]
            rfl
           refine one_ (i := 6) (N := some 43) (ar 81 2047) rfl rfl (one_of HT_.out (by kernel_rfl)) (by decide) (fun K hK => ?_)
           refine goes_ Try.func12 (by kernel_rfl) rfl #[.agg #[.int .u64 a0, .int .u64 a1]] (by rfl) rfl rfl (by (try simp only [List.map_toArray, List.map_cons, List.map_nil]); first | done | rfl) ?_
           with_reducible refine (tnum_May.calls a0 a1 t241 _ A13.out).mono ?_
           rintro e w59 ⟨rfl, hb⟩
           refine ⟨_, rfl, ?_⟩
           have n0_ := am (blk_below BK230.out hb)
           have n1_ := am (blk_below BK231.out hb)
           have n2_ := am (blk_below BK235.out hb)
           have n3_ := am (blk_below BK239.out hb)
           have n4_ := am (below_step (by repeat (first | exact HB.out | refine below_set ?_ GE230.out | refine below_set ?_ GE231.out | refine below_set ?_ GE235.out | refine below_set ?_ GE239.out)) hb)
           clear BK230
           clear BK231
           clear BK235
           clear BK239
           clear HB
           have BK230 := n0_
           have BK231 := n1_
           have BK235 := n2_
           have BK239 := n3_
           have HB := n4_
           clear n0_ n1_ n2_ n3_ n4_
           (try clear hb)
           (try clear hb2)
           (try clear hk)
           (try clear hi)
           refine hK.out _ _ ⟨(blk_cell BK230.out 0).trans rfl, (blk_cell BK230.out 1).trans rfl, (blk_cell BK231.out 0).trans rfl, (blk_cell BK231.out 1).trans rfl, (blk_cell BK235.out 0).trans rfl, (blk_cell BK235.out 1).trans rfl, (blk_cell BK239.out 0).trans rfl, (blk_cell BK239.out 1).trans rfl⟩ (fun hHeld => ?_)
           clear hK K
           refine norm_ (a' := ?_) ?_ ?_
           rotate_left
           ·show Act.put _ (some 43) _ = _
            simp only [Act.put, q1, q2, q3, i64_w, i32_w]
            rfl
           refine pure_ (i := 11) (N := some 48) (v := ?_) (a' := ?_) (ar 81 4095) rfl rfl (any_of HT_.out (by kernel_rfl)) (fun _ _ _ h => h) (Or.inl ⟨by rfl, ?_⟩) ?_ ?_
           rotate_left
           ·intro w'
            go_simp
            with_reducible rfl
           rotate_left
           ·simp only [Act.put, q1, q2, q3, i64_w, i32_w]
            rfl
           refine pure_ (i := 12) (N := some 49) (v := ?_) (a' := ?_) (ar 81 8191) rfl rfl (any_of HT_.out (by kernel_rfl)) (fun _ _ _ h => h) (Or.inl ⟨by rfl, ?_⟩) ?_ ?_
           rotate_left
           ·intro w'
            go_simp
            with_reducible rfl
           rotate_left
           ·simp only [Act.put, q1, q2, q3, i64_w, i32_w]
            rfl
           refine pure_ (i := 13) (N := some 50) (v := ?_) (a' := ?_) (ar 81 16383) rfl rfl (any_of HT_.out (by kernel_rfl)) (fun _ _ _ h => h) (Or.inl ⟨by rfl, ?_⟩) ?_ ?_
           rotate_left
           ·intro w'
            go_simp
            with_reducible rfl
           rotate_left
           ·simp only [Act.put, q1, q2, q3, i64_w, i32_w]
            rfl
           refine pure_ (i := 15) (N := some 52) (v := ?_) (a' := ?_) (ar 81 49151) rfl rfl (any_of HT_.out (by kernel_rfl)) (fun _ _ _ h => h) (Or.inl ⟨by rfl, ?_⟩) ?_ ?_
           rotate_left
           ·intro w'
            go_simp
            with_reducible rfl
           rotate_left
           ·simp only [Act.put, q1, q2, q3, i64_w, i32_w]
            rfl
           refine pure_ (i := 18) (N := some 55) (v := ?_) (a' := ?_) (ar 81 311295) rfl rfl (any_of HT_.out (by kernel_rfl)) (fun _ _ _ h => h) (Or.inl ⟨by rfl, ?_⟩) ?_ ?_
           rotate_left
           ·intro w'
            go_simp
            with_reducible rfl
           rotate_left
           ·simp only [Act.put, q1, q2, q3, i64_w, i32_w]
            rfl
           refine take_ (i := 14) (N := some 51) (v := ?_) (a' := ?_) (ar 81 327679) rfl rfl (take_ofW HT_.out HW_.out (by kernel_rfl)) (fun _ _ _ h => h) (Or.inl ⟨by rfl, ?_⟩) hHeld ?_ ?_
           rotate_left
           ·rintro w' ⟨s0, s1, s2, s3, s4, s5, s6, s7⟩
            go_simp
            with_reducible rfl
           rotate_left
           ·simp only [Act.put, q1, q2, q3, i64_w, i32_w]
            rfl
           refine take_ (i := 17) (N := some 54) (v := ?_) (a' := ?_) (ar 81 458751) rfl rfl (take_ofW HT_.out HW_.out (by kernel_rfl)) (fun _ _ _ h => h) (Or.inl ⟨by rfl, ?_⟩) hHeld ?_ ?_
           rotate_left
           ·rintro w' ⟨s0, s1, s2, s3, s4, s5, s6, s7⟩
            go_simp
            with_reducible rfl
           rotate_left
           ·simp only [Act.put, q1, q2, q3, i64_w, i32_w]
            rfl
           refine one_ (i := 16) (N := some 53) (ar 81 524287) rfl rfl (one_of HT_.out (by kernel_rfl)) (by decide) (fun K hK => ?_)
           refine goes_ Try.func13 (by kernel_rfl) rfl #[.agg #[.int .u64 t226, .int .u64 t227], .int .u64 a4] (by rfl) rfl rfl (by (try simp only [List.map_toArray, List.map_cons, List.map_nil]); first | done | rfl) ?_
           with_reducible refine (tnum_Has.calls t226 t227 a4 t242 _ A15.out).mono ?_
           rintro e w60 ⟨rfl, hb⟩
           refine ⟨_, rfl, ?_⟩
           have n0_ := am (blk_below BK230.out hb)
           have n1_ := am (blk_below BK231.out hb)
           have n2_ := am (blk_below BK235.out hb)
           have n3_ := am (blk_below BK239.out hb)
           have n4_ := am (below_step (by repeat (first | exact HB.out | refine below_set ?_ GE230.out | refine below_set ?_ GE231.out | refine below_set ?_ GE235.out | refine below_set ?_ GE239.out)) hb)
           clear BK230
           clear BK231
           clear BK235
           clear BK239
           clear HB
           have BK230 := n0_
           have BK231 := n1_
           have BK235 := n2_
           have BK239 := n3_
           have HB := n4_
           clear n0_ n1_ n2_ n3_ n4_
           (try clear hb)
           (try clear hb2)
           (try clear hk)
           (try clear hi)
           refine hK.out _ _ ⟨(blk_cell BK230.out 0).trans rfl, (blk_cell BK230.out 1).trans rfl, (blk_cell BK231.out 0).trans rfl, (blk_cell BK231.out 1).trans rfl, (blk_cell BK235.out 0).trans rfl, (blk_cell BK235.out 1).trans rfl, (blk_cell BK239.out 0).trans rfl, (blk_cell BK239.out 1).trans rfl⟩ (fun hHeld => ?_)
           clear hK K
           refine norm_ (a' := ?_) ?_ ?_
           rotate_left
           ·show Act.put _ (some 53) _ = _
            simp only [Act.put, q1, q2, q3, i64_w, i32_w]
            rfl
           refine one_ (i := 19) (N := some 56) (ar 81 1048575) rfl rfl (one_of HT_.out (by kernel_rfl)) (by decide) (fun K hK => ?_)
           refine goes_ Try.func14 (by kernel_rfl) rfl #[.agg #[.int .u64 t226, .int .u64 t227], .int .u64 a4] (by rfl) rfl rfl (by (try simp only [List.map_toArray, List.map_cons, List.map_nil]); first | done | rfl) ?_
           with_reducible refine (wardenref03_Has.calls k t226 t227 a4 t243 _ A16.out).mono ?_
           rintro e w61 ⟨rfl, hb⟩
           refine ⟨_, rfl, ?_⟩
           have n0_ := am (blk_below BK230.out hb)
           have n1_ := am (blk_below BK231.out hb)
           have n2_ := am (blk_below BK235.out hb)
           have n3_ := am (blk_below BK239.out hb)
           have n4_ := am (below_step (by repeat (first | exact HB.out | refine below_set ?_ GE230.out | refine below_set ?_ GE231.out | refine below_set ?_ GE235.out | refine below_set ?_ GE239.out)) hb)
           clear BK230
           clear BK231
           clear BK235
           clear BK239
           clear HB
           have BK230 := n0_
           have BK231 := n1_
           have BK235 := n2_
           have BK239 := n3_
           have HB := n4_
           clear n0_ n1_ n2_ n3_ n4_
           (try clear hb)
           (try clear hb2)
           (try clear hk)
           (try clear hi)
           refine hK.out _ _ ⟨(blk_cell BK230.out 0).trans rfl, (blk_cell BK230.out 1).trans rfl, (blk_cell BK231.out 0).trans rfl, (blk_cell BK231.out 1).trans rfl, (blk_cell BK235.out 0).trans rfl, (blk_cell BK235.out 1).trans rfl, (blk_cell BK239.out 0).trans rfl, (blk_cell BK239.out 1).trans rfl⟩ (fun hHeld => ?_)
           clear hK K
           refine norm_ (a' := ?_) ?_ ?_
           rotate_left
           ·show Act.put _ (some 56) _ = _
            simp only [Act.put, q1, q2, q3, i64_w, i32_w]
            rfl
           refine pure_ (i := 20) (N := some 57) (v := ?_) (a' := ?_) (ar 81 2097151) rfl rfl (any_of HT_.out (by kernel_rfl)) (fun _ _ _ h => h) (Or.inl ⟨by rfl, ?_⟩) ?_ ?_
           rotate_left
           ·intro w'
            go_simp
            with_reducible rfl
           rotate_left
           ·simp only [Act.put, q1, q2, q3, i64_w, i32_w]
            rfl
           refine pure_ (i := 21) (N := some 58) (v := ?_) (a' := ?_) (ar 81 4194303) rfl rfl (any_of HT_.out (by kernel_rfl)) (fun _ _ _ h => h) (Or.inl ⟨by rfl, ?_⟩) ?_ ?_
           rotate_left
           ·intro w'
            go_simp
            with_reducible rfl
           rotate_left
           ·simp only [Act.put, q1, q2, q3, i64_w, i32_w]
            rfl
           refine pure_ (i := 22) (N := some 59) (v := ?_) (a' := ?_) (ar 81 8388607) rfl rfl (any_of HT_.out (by kernel_rfl)) (fun _ _ _ h => h) (Or.inl ⟨by rfl, ?_⟩) ?_ ?_
           rotate_left
           ·intro w'
            go_simp
            with_reducible rfl
           rotate_left
           ·simp only [Act.put, q1, q2, q3, i64_w, i32_w]
            rfl
           refine take_ (i := 23) (N := some 60) (v := ?_) (a' := ?_) (ar 81 16777215) rfl rfl (take_ofW HT_.out HW_.out (by kernel_rfl)) (fun _ _ _ h => h) (Or.inl ⟨by rfl, ?_⟩) hHeld ?_ ?_
           rotate_left
           ·rintro w' ⟨s0, s1, s2, s3, s4, s5, s6, s7⟩
            go_simp
            with_reducible rfl
           rotate_left
           ·simp only [Act.put, q1, q2, q3, i64_w, i32_w]
            rfl
           refine take_ (i := 24) (N := some 61) (v := ?_) (a' := ?_) (ar 81 33554431) rfl rfl (take_ofW HT_.out HW_.out (by kernel_rfl)) (fun _ _ _ h => h) (Or.inl ⟨by rfl, ?_⟩) hHeld ?_ ?_
           rotate_left
           ·rintro w' ⟨s0, s1, s2, s3, s4, s5, s6, s7⟩
            go_simp
            with_reducible rfl
           rotate_left
           ·simp only [Act.put, q1, q2, q3, i64_w, i32_w]
            rfl
           refine take_ (i := 26) (N := some 63) (v := ?_) (a' := ?_) (ar 81 100663295) rfl rfl (take_ofW HT_.out HW_.out (by kernel_rfl)) (fun _ _ _ h => h) (Or.inl ⟨by rfl, ?_⟩) hHeld ?_ ?_
           rotate_left
           ·rintro w' ⟨s0, s1, s2, s3, s4, s5, s6, s7⟩
            go_simp
            with_reducible rfl
           rotate_left
           ·simp only [Act.put, q1, q2, q3, i64_w, i32_w]
            rfl
           refine take_ (i := 27) (N := some 64) (v := ?_) (a' := ?_) (ar 81 234881023) rfl rfl (take_ofW HT_.out HW_.out (by kernel_rfl)) (fun _ _ _ h => h) (Or.inl ⟨by rfl, ?_⟩) hHeld ?_ ?_
           rotate_left
           ·rintro w' ⟨s0, s1, s2, s3, s4, s5, s6, s7⟩
            go_simp
            with_reducible rfl
           rotate_left
           ·simp only [Act.put, q1, q2, q3, i64_w, i32_w]
            rfl
           refine one_ (i := 25) (N := some 62) (ar 81 268435455) rfl rfl (one_of HT_.out (by kernel_rfl)) (by decide) (fun K hK => ?_)
           refine goes_ Try.func15 (by kernel_rfl) rfl #[.agg #[.int .u64 t226, .int .u64 t227], .agg #[.int .u64 t228, .int .u64 t229]] (by rfl) rfl rfl (by (try simp only [List.map_toArray, List.map_cons, List.map_nil]); first | done | rfl) ?_
           with_reducible refine (tnum_In.calls t226 t227 t228 t229 t244 _ A18.out).mono ?_
           rintro e w62 ⟨rfl, hb⟩
           refine ⟨_, rfl, ?_⟩
           have n0_ := am (blk_below BK230.out hb)
           have n1_ := am (blk_below BK231.out hb)
           have n2_ := am (blk_below BK235.out hb)
           have n3_ := am (blk_below BK239.out hb)
           have n4_ := am (below_step (by repeat (first | exact HB.out | refine below_set ?_ GE230.out | refine below_set ?_ GE231.out | refine below_set ?_ GE235.out | refine below_set ?_ GE239.out)) hb)
           clear BK230
           clear BK231
           clear BK235
           clear BK239
           clear HB
           have BK230 := n0_
           have BK231 := n1_
           have BK235 := n2_
           have BK239 := n3_
           have HB := n4_
           clear n0_ n1_ n2_ n3_ n4_
           (try clear hb)
           (try clear hb2)
           (try clear hk)
           (try clear hi)
           refine hK.out _ _ ⟨(blk_cell BK230.out 0).trans rfl, (blk_cell BK230.out 1).trans rfl, (blk_cell BK231.out 0).trans rfl, (blk_cell BK231.out 1).trans rfl, (blk_cell BK235.out 0).trans rfl, (blk_cell BK235.out 1).trans rfl, (blk_cell BK239.out 0).trans rfl, (blk_cell BK239.out 1).trans rfl⟩ (fun hHeld => ?_)
           clear hK K
           refine norm_ (a' := ?_) ?_ ?_
           rotate_left
           ·show Act.put _ (some 62) _ = _
            simp only [Act.put, q1, q2, q3, i64_w, i32_w]
            rfl
           refine one_ (i := 28) (N := some 65) (ar 81 536870911) rfl rfl (one_of HT_.out (by kernel_rfl)) (by decide) (fun K hK => ?_)
           refine goes_ Try.func16 (by kernel_rfl) rfl #[.agg #[.int .u64 t226, .int .u64 t227], .agg #[.int .u64 t228, .int .u64 t229]] (by rfl) rfl rfl (by (try simp only [List.map_toArray, List.map_cons, List.map_nil]); first | done | rfl) ?_
           with_reducible refine (wardenref03_In.calls k t226 t227 t228 t229 t245 _ A19.out).mono ?_
           rintro e w63 ⟨rfl, hb⟩
           refine ⟨_, rfl, ?_⟩
           have n0_ := am (blk_below BK230.out hb)
           have n1_ := am (blk_below BK231.out hb)
           have n2_ := am (blk_below BK235.out hb)
           have n3_ := am (blk_below BK239.out hb)
           have n4_ := am (below_step (by repeat (first | exact HB.out | refine below_set ?_ GE230.out | refine below_set ?_ GE231.out | refine below_set ?_ GE235.out | refine below_set ?_ GE239.out)) hb)
           clear BK230
           clear BK231
           clear BK235
           clear BK239
           clear HB
           have BK230 := n0_
           have BK231 := n1_
           have BK235 := n2_
           have BK239 := n3_
           have HB := n4_
           clear n0_ n1_ n2_ n3_ n4_
           (try clear hb)
           (try clear hb2)
           (try clear hk)
           (try clear hi)
           refine hK.out _ _ ⟨(blk_cell BK230.out 0).trans rfl, (blk_cell BK230.out 1).trans rfl, (blk_cell BK231.out 0).trans rfl, (blk_cell BK231.out 1).trans rfl, (blk_cell BK235.out 0).trans rfl, (blk_cell BK235.out 1).trans rfl, (blk_cell BK239.out 0).trans rfl, (blk_cell BK239.out 1).trans rfl⟩ (fun hHeld => ?_)
           clear hK K
           refine norm_ (a' := ?_) ?_ ?_
           rotate_left
           ·show Act.put _ (some 65) _ = _
            simp only [Act.put, q1, q2, q3, i64_w, i32_w]
            rfl
           refine pure_ (i := 29) (N := some 66) (v := ?_) (a' := ?_) (ar 81 1073741823) rfl rfl (any_of HT_.out (by kernel_rfl)) (fun _ _ _ h => h) (Or.inl ⟨by rfl, ?_⟩) ?_ ?_
           rotate_left
           ·intro w'
            go_simp
            with_reducible rfl
           rotate_left
           ·simp only [Act.put, q1, q2, q3, i64_w, i32_w]
            rfl
           refine pure_ (i := 30) (N := some 67) (v := ?_) (a' := ?_) (ar 81 2147483647) rfl rfl (any_of HT_.out (by kernel_rfl)) (fun _ _ _ h => h) (Or.inl ⟨by rfl, ?_⟩) ?_ ?_
           rotate_left
           ·intro w'
            go_simp
            with_reducible rfl
           rotate_left
           ·simp only [Act.put, q1, q2, q3, i64_w, i32_w]
            rfl
           refine pure_ (i := 31) (N := some 68) (v := ?_) (a' := ?_) (ar 81 4294967295) rfl rfl (any_of HT_.out (by kernel_rfl)) (fun _ _ _ h => h) (Or.inl ⟨by rfl, ?_⟩) ?_ ?_
           rotate_left
           ·intro w'
            go_simp
            with_reducible rfl
           rotate_left
           ·simp only [Act.put, q1, q2, q3, i64_w, i32_w]
            rfl
           refine pure_ (i := 32) (N := some 69) (v := ?_) (a' := ?_) (ar 81 8589934591) rfl rfl (any_of HT_.out (by kernel_rfl)) (fun _ _ _ h => h) (Or.inl ⟨by rfl, ?_⟩) ?_ ?_
           rotate_left
           ·intro w'
            go_simp
            with_reducible rfl
           rotate_left
           ·simp only [Act.put, q1, q2, q3, i64_w, i32_w]
            rfl
           refine pure_ (i := 34) (N := some 71) (v := ?_) (a' := ?_) (ar 81 25769803775) rfl rfl (any_of HT_.out (by kernel_rfl)) (fun _ _ _ h => h) (Or.inl ⟨by rfl, ?_⟩) ?_ ?_
           rotate_left
           ·intro w'
            go_simp
            with_reducible rfl
           rotate_left
           ·simp only [Act.put, q1, q2, q3, i64_w, i32_w]
            rfl
           refine one_ (i := 33) (N := some 70) (ar 81 34359738367) rfl rfl (one_of HT_.out (by kernel_rfl)) (by decide) (fun K hK => ?_)
           refine goes_ Try.func17 (by kernel_rfl) rfl #[.int .u64 a4] (by rfl) rfl rfl (by (try simp only [List.map_toArray, List.map_cons, List.map_nil]); first | done | rfl) ?_
           with_reducible refine (tnum_Const.calls a4 t246 t247 _ A21.out).mono ?_
           rintro e w64 ⟨rfl, hb⟩
           refine ⟨_, rfl, ?_⟩
           have n0_ := am (blk_below BK230.out hb)
           have n1_ := am (blk_below BK231.out hb)
           have n2_ := am (blk_below BK235.out hb)
           have n3_ := am (blk_below BK239.out hb)
           have n4_ := am (below_step (by repeat (first | exact HB.out | refine below_set ?_ GE230.out | refine below_set ?_ GE231.out | refine below_set ?_ GE235.out | refine below_set ?_ GE239.out)) hb)
           clear BK230
           clear BK231
           clear BK235
           clear BK239
           clear HB
           have BK230 := n0_
           have BK231 := n1_
           have BK235 := n2_
           have BK239 := n3_
           have HB := n4_
           clear n0_ n1_ n2_ n3_ n4_
           (try clear hb)
           (try clear hb2)
           (try clear hk)
           (try clear hi)
           refine hK.out _ _ ⟨(blk_cell BK230.out 0).trans rfl, (blk_cell BK230.out 1).trans rfl, (blk_cell BK231.out 0).trans rfl, (blk_cell BK231.out 1).trans rfl, (blk_cell BK235.out 0).trans rfl, (blk_cell BK235.out 1).trans rfl, (blk_cell BK239.out 0).trans rfl, (blk_cell BK239.out 1).trans rfl⟩ (fun hHeld => ?_)
           clear hK K
           refine norm_ (a' := ?_) ?_ ?_
           rotate_left
           ·show Act.put _ (some 70) _ = _
            simp only [Act.put, q1, q2, q3, i64_w, i32_w]
            rfl
           refine one_ (i := 35) (N := some 72) (ar 81 68719476735) rfl rfl (one_of HT_.out (by kernel_rfl)) (by decide) (fun K hK => ?_)
           refine goes_ Try.func9 (by kernel_rfl) rfl #[.int .u64 a4, .int .u64 0] (by rfl) rfl rfl (by (try simp only [List.map_toArray, List.map_cons, List.map_nil]); first | done | rfl) ?_
           with_reducible refine (wardenlaw03_of.calls a4 0 t248 t249 _ A22.out).mono ?_
           rintro e w65 ⟨rfl, hb⟩
           refine ⟨_, rfl, ?_⟩
           have n0_ := am (blk_below BK230.out hb)
           have n1_ := am (blk_below BK231.out hb)
           have n2_ := am (blk_below BK235.out hb)
           have n3_ := am (blk_below BK239.out hb)
           have n4_ := am (below_step (by repeat (first | exact HB.out | refine below_set ?_ GE230.out | refine below_set ?_ GE231.out | refine below_set ?_ GE235.out | refine below_set ?_ GE239.out)) hb)
           clear BK230
           clear BK231
           clear BK235
           clear BK239
           clear HB
           have BK230 := n0_
           have BK231 := n1_
           have BK235 := n2_
           have BK239 := n3_
           have HB := n4_
           clear n0_ n1_ n2_ n3_ n4_
           (try clear hb)
           (try clear hb2)
           (try clear hk)
           (try clear hi)
           refine hK.out _ _ ⟨(blk_cell BK230.out 0).trans rfl, (blk_cell BK230.out 1).trans rfl, (blk_cell BK231.out 0).trans rfl, (blk_cell BK231.out 1).trans rfl, (blk_cell BK235.out 0).trans rfl, (blk_cell BK235.out 1).trans rfl, (blk_cell BK239.out 0).trans rfl, (blk_cell BK239.out 1).trans rfl⟩ (fun hHeld => ?_)
           clear hK K
           refine norm_ (a' := ?_) ?_ ?_
           rotate_left
           ·show Act.put _ (some 72) _ = _
            simp only [Act.put, q1, q2, q3, i64_w, i32_w]
            rfl
           refine pure_ (i := 36) (N := some 73) (v := ?_) (a' := ?_) (ar 81 137438953471) rfl rfl (any_of HT_.out (by kernel_rfl)) (fun _ _ _ h => h) (Or.inl ⟨by rfl, ?_⟩) ?_ ?_
           rotate_left
           ·intro w'
            go_simp
            with_reducible rfl
           rotate_left
           ·simp only [Act.put, q1, q2, q3, i64_w, i32_w]
            rfl
           refine pure_ (i := 37) (N := some 74) (v := ?_) (a' := ?_) (ar 81 274877906943) rfl rfl (any_of HT_.out (by kernel_rfl)) (fun _ _ _ h => h) (Or.inl ⟨by rfl, ?_⟩) ?_ ?_
           rotate_left
           ·intro w'
            go_simp
            with_reducible rfl
           rotate_left
           ·simp only [Act.put, q1, q2, q3, i64_w, i32_w]
            rfl
           refine pure_ (i := 38) (N := some 75) (v := ?_) (a' := ?_) (ar 81 549755813887) rfl rfl (any_of HT_.out (by kernel_rfl)) (fun _ _ _ h => h) (Or.inl ⟨by rfl, ?_⟩) ?_ ?_
           rotate_left
           ·intro w'
            go_simp
            with_reducible rfl
           rotate_left
           ·simp only [Act.put, q1, q2, q3, i64_w, i32_w]
            rfl
           refine pure_ (i := 39) (N := some 76) (v := ?_) (a' := ?_) (ar 81 1099511627775) rfl rfl (any_of HT_.out (by kernel_rfl)) (fun _ _ _ h => h) (Or.inl ⟨by rfl, ?_⟩) ?_ ?_
           rotate_left
           ·intro w'
            go_simp
            with_reducible rfl
           rotate_left
           ·simp only [Act.put, q1, q2, q3, i64_w, i32_w]
            rfl
           refine pure_ (i := 40) (N := some 77) (v := ?_) (a' := ?_) (ar 81 2199023255551) rfl rfl (any_of HT_.out (by kernel_rfl)) (fun _ _ _ h => h) (Or.inl ⟨by rfl, ?_⟩) ?_ ?_
           rotate_left
           ·intro w'
            go_simp
            with_reducible rfl
           rotate_left
           ·simp only [Act.put, q1, q2, q3, i64_w, i32_w]
            rfl
           refine pure_ (i := 42) (N := some 79) (v := ?_) (a' := ?_) (ar 81 6597069766655) rfl rfl (any_of HT_.out (by kernel_rfl)) (fun _ _ _ h => h) (Or.inl ⟨by rfl, ?_⟩) ?_ ?_
           rotate_left
           ·intro w'
            go_simp
            with_reducible rfl
           rotate_left
           ·simp only [Act.put, q1, q2, q3, i64_w, i32_w]
            rfl
           refine pure_ (i := 43) (N := some 80) (v := ?_) (a' := ?_) (ar 81 15393162788863) rfl rfl (any_of HT_.out (by kernel_rfl)) (fun _ _ _ h => h) (Or.inl ⟨by rfl, ?_⟩) ?_ ?_
           rotate_left
           ·intro w'
            go_simp
            with_reducible rfl
           rotate_left
           ·simp only [Act.put, q1, q2, q3, i64_w, i32_w]
            rfl
           refine one_ (i := 41) (N := some 78) (ar 81 17592186044415) rfl rfl (one_of HT_.out (by kernel_rfl)) (by decide) (fun K hK => ?_)
           refine goes_ Try.func18 (by kernel_rfl) rfl #[.int .u64 a0, .int .u64 a2] (by rfl) rfl rfl (by (try simp only [List.map_toArray, List.map_cons, List.map_nil]); first | done | rfl) ?_
           with_reducible refine (tnum_Range.calls k a0 a2 t250 t251 _ A24.out).mono ?_
           rintro e w66 ⟨rfl, hb⟩
           refine ⟨_, rfl, ?_⟩
           have n0_ := am (blk_below BK230.out hb)
           have n1_ := am (blk_below BK231.out hb)
           have n2_ := am (blk_below BK235.out hb)
           have n3_ := am (blk_below BK239.out hb)
           have n4_ := am (below_step (by repeat (first | exact HB.out | refine below_set ?_ GE230.out | refine below_set ?_ GE231.out | refine below_set ?_ GE235.out | refine below_set ?_ GE239.out)) hb)
           clear BK230
           clear BK231
           clear BK235
           clear BK239
           clear HB
           have BK230 := n0_
           have BK231 := n1_
           have BK235 := n2_
           have BK239 := n3_
           have HB := n4_
           clear n0_ n1_ n2_ n3_ n4_
           (try clear hb)
           (try clear hb2)
           (try clear hk)
           (try clear hi)
           refine hK.out _ _ ⟨(blk_cell BK230.out 0).trans rfl, (blk_cell BK230.out 1).trans rfl, (blk_cell BK231.out 0).trans rfl, (blk_cell BK231.out 1).trans rfl, (blk_cell BK235.out 0).trans rfl, (blk_cell BK235.out 1).trans rfl, (blk_cell BK239.out 0).trans rfl, (blk_cell BK239.out 1).trans rfl⟩ (fun hHeld => ?_)
           clear hK K
           refine norm_ (a' := ?_) ?_ ?_
           rotate_left
           ·show Act.put _ (some 78) _ = _
            simp only [Act.put, q1, q2, q3, i64_w, i32_w]
            rfl
           refine one_ (i := 44) (N := some 81) (ar 81 35184372088831) rfl rfl (one_of HT_.out (by kernel_rfl)) (by decide) (fun K hK => ?_)
           refine goes_ Try.func19 (by kernel_rfl) rfl #[.int .u64 a0, .int .u64 a2] (by rfl) rfl rfl (by (try simp only [List.map_toArray, List.map_cons, List.map_nil]); first | done | rfl) ?_
           with_reducible refine (wardenref03_Range.calls k a0 a2 t252 t253 _ A25.out).mono ?_
           rintro e w67 ⟨rfl, hb⟩
           refine ⟨_, rfl, ?_⟩
           have n0_ := am (blk_below BK230.out hb)
           have n1_ := am (blk_below BK231.out hb)
           have n2_ := am (blk_below BK235.out hb)
           have n3_ := am (blk_below BK239.out hb)
           have n4_ := am (below_step (by repeat (first | exact HB.out | refine below_set ?_ GE230.out | refine below_set ?_ GE231.out | refine below_set ?_ GE235.out | refine below_set ?_ GE239.out)) hb)
           clear BK230
           clear BK231
           clear BK235
           clear BK239
           clear HB
           have BK230 := n0_
           have BK231 := n1_
           have BK235 := n2_
           have BK239 := n3_
           have HB := n4_
           clear n0_ n1_ n2_ n3_ n4_
           (try clear hb)
           (try clear hb2)
           (try clear hk)
           (try clear hi)
           refine hK.out _ _ ⟨(blk_cell BK230.out 0).trans rfl, (blk_cell BK230.out 1).trans rfl, (blk_cell BK231.out 0).trans rfl, (blk_cell BK231.out 1).trans rfl, (blk_cell BK235.out 0).trans rfl, (blk_cell BK235.out 1).trans rfl, (blk_cell BK239.out 0).trans rfl, (blk_cell BK239.out 1).trans rfl⟩ (fun hHeld => ?_)
           clear hK K
           refine norm_ (a' := ?_) ?_ ?_
           rotate_left
           ·show Act.put _ (some 81) _ = _
            simp only [Act.put, q1, q2, q3, i64_w, i32_w]
            rfl
           refine pure_ (i := 45) (N := some 82) (v := ?_) (a' := ?_) (ar 81 70368744177663) rfl rfl (any_of HT_.out (by kernel_rfl)) (fun _ _ _ h => h) (Or.inl ⟨by rfl, ?_⟩) ?_ ?_
           rotate_left
           ·intro w'
            go_simp
            with_reducible rfl
           rotate_left
           ·simp only [Act.put, q1, q2, q3, i64_w, i32_w]
            rfl
           refine pure_ (i := 46) (N := some 83) (v := ?_) (a' := ?_) (ar 81 140737488355327) rfl rfl (any_of HT_.out (by kernel_rfl)) (fun _ _ _ h => h) (Or.inl ⟨by rfl, ?_⟩) ?_ ?_
           rotate_left
           ·intro w'
            go_simp
            with_reducible rfl
           rotate_left
           ·simp only [Act.put, q1, q2, q3, i64_w, i32_w]
            rfl
           refine pure_ (i := 47) (N := some 84) (v := ?_) (a' := ?_) (ar 81 281474976710655) rfl rfl (any_of HT_.out (by kernel_rfl)) (fun _ _ _ h => h) (Or.inl ⟨by rfl, ?_⟩) ?_ ?_
           rotate_left
           ·intro w'
            go_simp
            with_reducible rfl
           rotate_left
           ·simp only [Act.put, q1, q2, q3, i64_w, i32_w]
            rfl
           refine take_ (i := 48) (N := some 85) (v := ?_) (a' := ?_) (ar 81 562949953421311) rfl rfl (take_ofW HT_.out HW_.out (by kernel_rfl)) (fun _ _ _ h => h) (Or.inl ⟨by rfl, ?_⟩) hHeld ?_ ?_
           rotate_left
           ·rintro w' ⟨s0, s1, s2, s3, s4, s5, s6, s7⟩
            go_simp
            with_reducible rfl
           rotate_left
           ·simp only [Act.put, q1, q2, q3, i64_w, i32_w]
            rfl
           refine take_ (i := 49) (N := some 86) (v := ?_) (a' := ?_) (ar 81 1125899906842623) rfl rfl (take_ofW HT_.out HW_.out (by kernel_rfl)) (fun _ _ _ h => h) (Or.inl ⟨by rfl, ?_⟩) hHeld ?_ ?_
           rotate_left
           ·rintro w' ⟨s0, s1, s2, s3, s4, s5, s6, s7⟩
            go_simp
            with_reducible rfl
           rotate_left
           ·simp only [Act.put, q1, q2, q3, i64_w, i32_w]
            rfl
           refine take_ (i := 51) (N := some 88) (v := ?_) (a' := ?_) (ar 81 3377699720527871) rfl rfl (take_ofW HT_.out HW_.out (by kernel_rfl)) (fun _ _ _ h => h) (Or.inl ⟨by rfl, ?_⟩) hHeld ?_ ?_
           rotate_left
           ·rintro w' ⟨s0, s1, s2, s3, s4, s5, s6, s7⟩
            go_simp
            with_reducible rfl
           rotate_left
           ·simp only [Act.put, q1, q2, q3, i64_w, i32_w]
            rfl
           refine take_ (i := 52) (N := some 89) (v := ?_) (a' := ?_) (ar 81 7881299347898367) rfl rfl (take_ofW HT_.out HW_.out (by kernel_rfl)) (fun _ _ _ h => h) (Or.inl ⟨by rfl, ?_⟩) hHeld ?_ ?_
           rotate_left
           ·rintro w' ⟨s0, s1, s2, s3, s4, s5, s6, s7⟩
            go_simp
            with_reducible rfl
           rotate_left
           ·simp only [Act.put, q1, q2, q3, i64_w, i32_w]
            rfl
           refine one_ (i := 50) (N := some 87) (ar 81 9007199254740991) rfl rfl (one_of HT_.out (by kernel_rfl)) (by decide) (fun K hK => ?_)
           refine goes_ Try.func20 (by kernel_rfl) rfl #[.agg #[.int .u64 t226, .int .u64 t227], .agg #[.int .u64 t228, .int .u64 t229]] (by rfl) rfl rfl (by (try simp only [List.map_toArray, List.map_cons, List.map_nil]); first | done | rfl) ?_
           with_reducible refine (tnum_Join.calls t226 t227 t228 t229 t254 t255 _ A27.out).mono ?_
           rintro e w68 ⟨rfl, hb⟩
           refine ⟨_, rfl, ?_⟩
           have n0_ := am (blk_below BK230.out hb)
           have n1_ := am (blk_below BK231.out hb)
           have n2_ := am (blk_below BK235.out hb)
           have n3_ := am (blk_below BK239.out hb)
           have n4_ := am (below_step (by repeat (first | exact HB.out | refine below_set ?_ GE230.out | refine below_set ?_ GE231.out | refine below_set ?_ GE235.out | refine below_set ?_ GE239.out)) hb)
           clear BK230
           clear BK231
           clear BK235
           clear BK239
           clear HB
           have BK230 := n0_
           have BK231 := n1_
           have BK235 := n2_
           have BK239 := n3_
           have HB := n4_
           clear n0_ n1_ n2_ n3_ n4_
           (try clear hb)
           (try clear hb2)
           (try clear hk)
           (try clear hi)
           refine hK.out _ _ ⟨(blk_cell BK230.out 0).trans rfl, (blk_cell BK230.out 1).trans rfl, (blk_cell BK231.out 0).trans rfl, (blk_cell BK231.out 1).trans rfl, (blk_cell BK235.out 0).trans rfl, (blk_cell BK235.out 1).trans rfl, (blk_cell BK239.out 0).trans rfl, (blk_cell BK239.out 1).trans rfl⟩ (fun hHeld => ?_)
           clear hK K
           refine norm_ (a' := ?_) ?_ ?_
           rotate_left
           ·show Act.put _ (some 87) _ = _
            simp only [Act.put, q1, q2, q3, i64_w, i32_w]
            rfl
           refine one_ (i := 53) (N := some 90) (ar 81 18014398509481983) rfl rfl (one_of HT_.out (by kernel_rfl)) (by decide) (fun K hK => ?_)
           refine goes_ Try.func21 (by kernel_rfl) rfl #[.agg #[.int .u64 t226, .int .u64 t227], .agg #[.int .u64 t228, .int .u64 t229], .int .i64 0] (by rfl) rfl rfl (by (try simp only [List.map_toArray, List.map_cons, List.map_nil]); first | done | rfl) ?_
           with_reducible refine (wardenref03_Bits.calls k t226 t227 t228 t229 0 t256 t257 _ A28.out).mono ?_
           rintro e w69 ⟨rfl, hb⟩
           refine ⟨_, rfl, ?_⟩
           have n0_ := am (blk_below BK230.out hb)
           have n1_ := am (blk_below BK231.out hb)
           have n2_ := am (blk_below BK235.out hb)
           have n3_ := am (blk_below BK239.out hb)
           have n4_ := am (below_step (by repeat (first | exact HB.out | refine below_set ?_ GE230.out | refine below_set ?_ GE231.out | refine below_set ?_ GE235.out | refine below_set ?_ GE239.out)) hb)
           clear BK230
           clear BK231
           clear BK235
           clear BK239
           clear HB
           have BK230 := n0_
           have BK231 := n1_
           have BK235 := n2_
           have BK239 := n3_
           have HB := n4_
           clear n0_ n1_ n2_ n3_ n4_
           (try clear hb)
           (try clear hb2)
           (try clear hk)
           (try clear hi)
           refine hK.out _ _ ⟨(blk_cell BK230.out 0).trans rfl, (blk_cell BK230.out 1).trans rfl, (blk_cell BK231.out 0).trans rfl, (blk_cell BK231.out 1).trans rfl, (blk_cell BK235.out 0).trans rfl, (blk_cell BK235.out 1).trans rfl, (blk_cell BK239.out 0).trans rfl, (blk_cell BK239.out 1).trans rfl⟩ (fun hHeld => ?_)
           clear hK K
           refine norm_ (a' := ?_) ?_ ?_
           rotate_left
           ·show Act.put _ (some 90) _ = _
            simp only [Act.put, q1, q2, q3, i64_w, i32_w]
            rfl
           refine pure_ (i := 54) (N := some 91) (v := ?_) (a' := ?_) (ar 81 36028797018963967) rfl rfl (any_of HT_.out (by kernel_rfl)) (fun _ _ _ h => h) (Or.inl ⟨by rfl, ?_⟩) ?_ ?_
           rotate_left
           ·intro w'
            go_simp
            with_reducible rfl
           rotate_left
           ·simp only [Act.put, q1, q2, q3, i64_w, i32_w]
            rfl
           refine pure_ (i := 55) (N := some 92) (v := ?_) (a' := ?_) (ar 81 72057594037927935) rfl rfl (any_of HT_.out (by kernel_rfl)) (fun _ _ _ h => h) (Or.inl ⟨by rfl, ?_⟩) ?_ ?_
           rotate_left
           ·intro w'
            go_simp
            with_reducible rfl
           rotate_left
           ·simp only [Act.put, q1, q2, q3, i64_w, i32_w]
            rfl
           refine pure_ (i := 56) (N := some 93) (v := ?_) (a' := ?_) (ar 81 144115188075855871) rfl rfl (any_of HT_.out (by kernel_rfl)) (fun _ _ _ h => h) (Or.inl ⟨by rfl, ?_⟩) ?_ ?_
           rotate_left
           ·intro w'
            go_simp
            with_reducible rfl
           rotate_left
           ·simp only [Act.put, q1, q2, q3, i64_w, i32_w]
            rfl
           refine take_ (i := 57) (N := some 94) (v := ?_) (a' := ?_) (ar 81 288230376151711743) rfl rfl (take_ofW HT_.out HW_.out (by kernel_rfl)) (fun _ _ _ h => h) (Or.inl ⟨by rfl, ?_⟩) hHeld ?_ ?_
           rotate_left
           ·rintro w' ⟨s0, s1, s2, s3, s4, s5, s6, s7⟩
            go_simp
            with_reducible rfl
           rotate_left
           ·simp only [Act.put, q1, q2, q3, i64_w, i32_w]
            rfl
           refine take_ (i := 58) (N := some 95) (v := ?_) (a' := ?_) (ar 81 576460752303423487) rfl rfl (take_ofW HT_.out HW_.out (by kernel_rfl)) (fun _ _ _ h => h) (Or.inl ⟨by rfl, ?_⟩) hHeld ?_ ?_
           rotate_left
           ·rintro w' ⟨s0, s1, s2, s3, s4, s5, s6, s7⟩
            go_simp
            with_reducible rfl
           rotate_left
           ·simp only [Act.put, q1, q2, q3, i64_w, i32_w]
            rfl
           refine pure_ (i := 59) (N := some 96) (v := ?_) (a' := ?_) (ar 81 1152921504606846975) rfl rfl (any_of HT_.out (by kernel_rfl)) (fun _ _ _ h => h) (Or.inl ⟨by rfl, ?_⟩) ?_ ?_
           rotate_left
           ·intro w'
            go_simp
            with_reducible rfl
           rotate_left
           ·simp only [Act.put, q1, q2, q3, i64_w, i32_w]
            rfl
           refine pure_ (i := 60) (N := some 97) (v := ?_) (a' := ?_) (ar 81 2305843009213693951) rfl rfl (any_of HT_.out (by kernel_rfl)) (fun _ _ _ h => h) (Or.inl ⟨by rfl, ?_⟩) ?_ ?_
           rotate_left
           ·intro w'
            go_simp
            with_reducible rfl
           rotate_left
           ·simp only [Act.put, q1, q2, q3, i64_w, i32_w]
            rfl
           refine pure_ (i := 61) (N := some 98) (v := ?_) (a' := ?_) (ar 81 4611686018427387903) rfl rfl (any_of HT_.out (by kernel_rfl)) (fun _ _ _ h => h) (Or.inl ⟨by rfl, ?_⟩) ?_ ?_
           rotate_left
           ·intro w'
            go_simp
            with_reducible rfl
           rotate_left
           ·simp only [Act.put, q1, q2, q3, i64_w, i32_w]
            rfl
           refine pure_ (i := 62) (N := some 99) (v := ?_) (a' := ?_) (ar 81 9223372036854775807) rfl rfl (any_of HT_.out (by kernel_rfl)) (fun _ _ _ h => h) (Or.inl ⟨by rfl, ?_⟩) ?_ ?_
           rotate_left
           ·intro w'
            go_simp
            with_reducible rfl
           rotate_left
           ·simp only [Act.put, q1, q2, q3, i64_w, i32_w]
            rfl
           refine pure_ (i := 63) (N := some 100) (v := ?_) (a' := ?_) (ar 81 18446744073709551615) rfl rfl (any_of HT_.out (by kernel_rfl)) (fun _ _ _ h => h) (Or.inl ⟨by rfl, ?_⟩) ?_ ?_
           rotate_left
           ·intro w'
            go_simp
            with_reducible rfl
           rotate_left
           ·simp only [Act.put, q1, q2, q3, i64_w, i32_w]
            rfl
           refine pure_ (i := 64) (N := some 101) (v := ?_) (a' := ?_) (ar 81 36893488147419103231) rfl rfl (any_of HT_.out (by kernel_rfl)) (fun _ _ _ h => h) (Or.inl ⟨by rfl, ?_⟩) ?_ ?_
           rotate_left
           ·intro w'
            go_simp
            with_reducible rfl
           rotate_left
           ·simp only [Act.put, q1, q2, q3, i64_w, i32_w]
            rfl
           refine pure_ (i := 65) (N := some 102) (v := ?_) (a' := ?_) (ar 81 73786976294838206463) rfl rfl (any_of HT_.out (by kernel_rfl)) (fun _ _ _ h => h) (Or.inl ⟨by rfl, ?_⟩) ?_ ?_
           rotate_left
           ·intro w'
            go_simp
            with_reducible rfl
           rotate_left
           ·simp only [Act.put, q1, q2, q3, i64_w, i32_w]
            rfl
           refine pure_ (i := 66) (N := some 103) (v := ?_) (a' := ?_) (ar 81 147573952589676412927) rfl rfl (any_of HT_.out (by kernel_rfl)) (fun _ _ _ h => h) (Or.inl ⟨by rfl, ?_⟩) ?_ ?_
           rotate_left
           ·intro w'
            go_simp
            with_reducible rfl
           rotate_left
           ·simp only [Act.put, q1, q2, q3, i64_w, i32_w]
            rfl
           refine pure_ (i := 68) (N := some 105) (v := ?_) (a' := ?_) (ar 81 442721857769029238783) rfl rfl (any_of HT_.out (by kernel_rfl)) (fun _ _ _ h => h) (Or.inl ⟨by rfl, ?_⟩) ?_ ?_
           rotate_left
           ·intro w'
            go_simp
            with_reducible rfl
           rotate_left
           ·simp only [Act.put, q1, q2, q3, i64_w, i32_w]
            rfl
           refine pure_ (i := 69) (N := some 106) (v := ?_) (a' := ?_) (ar 81 1033017668127734890495) rfl rfl (any_of HT_.out (by kernel_rfl)) (fun _ _ _ h => h) (Or.inl ⟨by rfl, ?_⟩) ?_ ?_
           rotate_left
           ·intro w'
            go_simp
            with_reducible rfl
           rotate_left
           ·simp only [Act.put, q1, q2, q3, i64_w, i32_w]
            rfl
           refine pure_ (i := 72) (N := some 109) (v := ?_) (a' := ?_) (ar 81 5755384150997380104191) rfl rfl (any_of HT_.out (by kernel_rfl)) (fun _ _ _ h => h) (Or.inl ⟨by rfl, ?_⟩) ?_ ?_
           rotate_left
           ·intro w'
            go_simp
            with_reducible rfl
           rotate_left
           ·simp only [Act.put, q1, q2, q3, i64_w, i32_w]
            rfl
           refine pure_ (i := 73) (N := some 110) (v := ?_) (a' := ?_) (ar 81 15200117116736670531583) rfl rfl (any_of HT_.out (by kernel_rfl)) (fun _ _ _ h => h) (Or.inl ⟨by rfl, ?_⟩) ?_ ?_
           rotate_left
           ·intro w'
            go_simp
            with_reducible rfl
           rotate_left
           ·simp only [Act.put, q1, q2, q3, i64_w, i32_w]
            rfl
           refine take_ (i := 67) (N := some 104) (v := ?_) (a' := ?_) (ar 81 15347691069326346944511) rfl rfl (take_ofW HT_.out HW_.out (by kernel_rfl)) (fun _ _ _ h => h) (Or.inl ⟨by rfl, ?_⟩) hHeld ?_ ?_
           rotate_left
           ·rintro w' ⟨s0, s1, s2, s3, s4, s5, s6, s7⟩
            go_simp
            with_reducible rfl
           rotate_left
           ·simp only [Act.put, q1, q2, q3, i64_w, i32_w]
            rfl
           refine take_ (i := 71) (N := some 108) (v := ?_) (a' := ?_) (ar 81 17708874310761169551359) rfl rfl (take_ofW HT_.out HW_.out (by kernel_rfl)) (fun _ _ _ h => h) (Or.inl ⟨by rfl, ?_⟩) hHeld ?_ ?_
           rotate_left
           ·rintro w' ⟨s0, s1, s2, s3, s4, s5, s6, s7⟩
            go_simp
            with_reducible rfl
           rotate_left
           ·simp only [Act.put, q1, q2, q3, i64_w, i32_w]
            rfl
           refine one_ (i := 70) (N := some 107) (ar 81 18889465931478580854783) rfl rfl (one_of HT_.out (by kernel_rfl)) (by decide) (fun K hK => ?_)
           refine goes_ Try.func22 (by kernel_rfl) rfl #[.agg #[.int .u64 t226, .int .u64 t227], .int .u64 (IntKind.u64.wrap (a5))] (by rfl) rfl rfl (by (try simp only [List.map_toArray, List.map_cons, List.map_nil]); first | done | rfl) ?_
           with_reducible refine (tnum_Low.calls t226 t227 (IntKind.u64.wrap (a5)) t258 t259 _ A32.out).mono ?_
           rintro e w70 ⟨rfl, hb⟩
           refine ⟨_, rfl, ?_⟩
           have n0_ := am (blk_below BK230.out hb)
           have n1_ := am (blk_below BK231.out hb)
           have n2_ := am (blk_below BK235.out hb)
           have n3_ := am (blk_below BK239.out hb)
           have n4_ := am (below_step (by repeat (first | exact HB.out | refine below_set ?_ GE230.out | refine below_set ?_ GE231.out | refine below_set ?_ GE235.out | refine below_set ?_ GE239.out)) hb)
           clear BK230
           clear BK231
           clear BK235
           clear BK239
           clear HB
           have BK230 := n0_
           have BK231 := n1_
           have BK235 := n2_
           have BK239 := n3_
           have HB := n4_
           clear n0_ n1_ n2_ n3_ n4_
           (try clear hb)
           (try clear hb2)
           (try clear hk)
           (try clear hi)
           refine hK.out _ _ ⟨(blk_cell BK230.out 0).trans rfl, (blk_cell BK230.out 1).trans rfl, (blk_cell BK231.out 0).trans rfl, (blk_cell BK231.out 1).trans rfl, (blk_cell BK235.out 0).trans rfl, (blk_cell BK235.out 1).trans rfl, (blk_cell BK239.out 0).trans rfl, (blk_cell BK239.out 1).trans rfl⟩ (fun hHeld => ?_)
           clear hK K
           refine norm_ (a' := ?_) ?_ ?_
           rotate_left
           ·show Act.put _ (some 107) _ = _
            simp only [Act.put, q1, q2, q3, i64_w, i32_w]
            rfl
           refine one_ (i := 74) (N := some 111) (ar 81 37778931862957161709567) rfl rfl (one_of HT_.out (by kernel_rfl)) (by decide) (fun K hK => ?_)
           refine goes_ Try.func23 (by kernel_rfl) rfl #[.agg #[.int .u64 t226, .int .u64 t227], .int .u64 (IntKind.u64.wrap (a5))] (by rfl) rfl rfl (by (try simp only [List.map_toArray, List.map_cons, List.map_nil]); first | done | rfl) ?_
           with_reducible refine (wardenref03_Low.calls k t226 t227 (IntKind.u64.wrap (a5)) t260 t261 _ A33.out).mono ?_
           rintro e w71 ⟨rfl, hb⟩
           refine ⟨_, rfl, ?_⟩
           have n0_ := am (blk_below BK230.out hb)
           have n1_ := am (blk_below BK231.out hb)
           have n2_ := am (blk_below BK235.out hb)
           have n3_ := am (blk_below BK239.out hb)
           have n4_ := am (below_step (by repeat (first | exact HB.out | refine below_set ?_ GE230.out | refine below_set ?_ GE231.out | refine below_set ?_ GE235.out | refine below_set ?_ GE239.out)) hb)
           clear BK230
           clear BK231
           clear BK235
           clear BK239
           clear HB
           have BK230 := n0_
           have BK231 := n1_
           have BK235 := n2_
           have BK239 := n3_
           have HB := n4_
           clear n0_ n1_ n2_ n3_ n4_
           (try clear hb)
           (try clear hb2)
           (try clear hk)
           (try clear hi)
           refine hK.out _ _ ⟨(blk_cell BK230.out 0).trans rfl, (blk_cell BK230.out 1).trans rfl, (blk_cell BK231.out 0).trans rfl, (blk_cell BK231.out 1).trans rfl, (blk_cell BK235.out 0).trans rfl, (blk_cell BK235.out 1).trans rfl, (blk_cell BK239.out 0).trans rfl, (blk_cell BK239.out 1).trans rfl⟩ (fun hHeld => ?_)
           clear hK K
           refine norm_ (a' := ?_) ?_ ?_
           rotate_left
           ·show Act.put _ (some 111) _ = _
            simp only [Act.put, q1, q2, q3, i64_w, i32_w]
            rfl
           refine pure_ (i := 75) (N := some 112) (v := ?_) (a' := ?_) (ar 81 75557863725914323419135) rfl rfl (any_of HT_.out (by kernel_rfl)) (fun _ _ _ h => h) (Or.inl ⟨by rfl, ?_⟩) ?_ ?_
           rotate_left
           ·intro w'
            go_simp
            with_reducible rfl
           rotate_left
           ·simp only [Act.put, q1, q2, q3, i64_w, i32_w]
            rfl
           refine pure_ (i := 76) (N := some 113) (v := ?_) (a' := ?_) (ar 81 151115727451828646838271) rfl rfl (any_of HT_.out (by kernel_rfl)) (fun _ _ _ h => h) (Or.inl ⟨by rfl, ?_⟩) ?_ ?_
           rotate_left
           ·intro w'
            go_simp
            with_reducible rfl
           rotate_left
           ·simp only [Act.put, q1, q2, q3, i64_w, i32_w]
            rfl
           refine pure_ (i := 77) (N := some 114) (v := ?_) (a' := ?_) (ar 81 302231454903657293676543) rfl rfl (any_of HT_.out (by kernel_rfl)) (fun _ _ _ h => h) (Or.inl ⟨by rfl, ?_⟩) ?_ ?_
           rotate_left
           ·intro w'
            go_simp
            with_reducible rfl
           rotate_left
           ·simp only [Act.put, q1, q2, q3, i64_w, i32_w]
            rfl
           refine one_ (i := 78) (N := some 115) (ar 81 604462909807314587353087) rfl rfl (one_of HT_.out (by kernel_rfl)) (by decide) (fun K hK => ?_)
           refine goes_ Try.func24 (by kernel_rfl) rfl #[] (by rfl) rfl rfl (by (try simp only [List.map_toArray, List.map_cons, List.map_nil]); first | done | rfl) ?_
           with_reducible refine (wardenlaw03_works.calls k t262 _ hr_ A35.out).mono ?_
           rintro e w72 ⟨rfl, hb⟩
           refine ⟨_, rfl, ?_⟩
           have n0_ := am (blk_below BK230.out hb)
           have n1_ := am (blk_below BK231.out hb)
           have n2_ := am (blk_below BK235.out hb)
           have n3_ := am (blk_below BK239.out hb)
           have n4_ := am (below_step (by repeat (first | exact HB.out | refine below_set ?_ GE230.out | refine below_set ?_ GE231.out | refine below_set ?_ GE235.out | refine below_set ?_ GE239.out)) hb)
           clear BK230
           clear BK231
           clear BK235
           clear BK239
           clear HB
           have BK230 := n0_
           have BK231 := n1_
           have BK235 := n2_
           have BK239 := n3_
           have HB := n4_
           clear n0_ n1_ n2_ n3_ n4_
           (try clear hb)
           (try clear hb2)
           (try clear hk)
           (try clear hi)
           refine hK.out _ _ ⟨(blk_cell BK230.out 0).trans rfl, (blk_cell BK230.out 1).trans rfl, (blk_cell BK231.out 0).trans rfl, (blk_cell BK231.out 1).trans rfl, (blk_cell BK235.out 0).trans rfl, (blk_cell BK235.out 1).trans rfl, (blk_cell BK239.out 0).trans rfl, (blk_cell BK239.out 1).trans rfl⟩ (fun hHeld => ?_)
           clear hK K
           refine norm_ (a' := ?_) ?_ ?_
           rotate_left
           ·show Act.put _ (some 115) _ = _
            simp only [Act.put, q1, q2, q3, i64_w, i32_w]
            rfl
           refine pure_ (i := 79) (N := some 116) (v := ?_) (a' := ?_) (ar 81 1208925819614629174706175) rfl rfl (any_of HT_.out (by kernel_rfl)) (fun _ _ _ h => h) (Or.inl ⟨by rfl, ?_⟩) ?_ ?_
           rotate_left
           ·intro w'
            go_simp
            with_reducible rfl
           rotate_left
           ·simp only [Act.put, q1, q2, q3, i64_w, i32_w]
            rfl
           refine pure_ (i := 80) (N := some 12) (v := ?_) (a' := ?_) (ar 81 2417851639229258349412351) rfl rfl (any_of HT_.out (by kernel_rfl)) (fun _ _ _ h => h) (Or.inl ⟨by rfl, ?_⟩) ?_ ?_
           rotate_left
           ·intro w'
            go_simp
            with_reducible rfl
           rotate_left
           ·simp only [Act.put, q1, q2, q3, i64_w, i32_w]
            rfl
           refine done_ (done_of HT_.out (by kernel_rfl)) ?_
           try go_wp2
           go_ret
           exact ⟨by first | rfl | (simp [errW_none, errW_some] <;> rfl) | (simp [*, errW_none, errW_some] <;> rfl), by repeat (first | (with_reducible first | exact HB.out | apply below_alloc | apply pw_below_drewN | apply below_drew1 | refine below_set ?_ GE230.out | refine below_set ?_ GE231.out | refine below_set ?_ GE235.out | refine below_set ?_ GE239.out) | exact HB.out)⟩
          ·rw [if_neg c34] at H
           have c34b0 : (t258 == t260 && (t259 == t261)) = false := by simpa using c34
           (try (have c34b1 : decide (t258 = t260 && (t259 == t261)) = false := by simpa using c34))
           (try (have c34b2 : (t258 == t260 && (t259 == t261)) = false := by simpa using c34))
           (try (have c34b3 : ¬ (t258 = t260 && (t259 == t261)) := by simpa using c34))
           clear c34
           exact absurd ((Option.some.inj H).trans hr_.out) (by decide)
         ·rw [if_neg c31] at H
          have c31b0 : (t234 == t238) = false := by simpa using c31
          (try (have c31b1 : decide (t234 = t238) = false := by simpa using c31))
          (try (have c31b2 : (t234 == t238) = false := by simpa using c31))
          (try (have c31b3 : ¬ (t234 = t238) := by simpa using c31))
          clear c31
          exact absurd ((Option.some.inj H).trans hr_.out) (by decide)
        ·rw [if_neg c30] at H
         have c30b0 : (t232 == t236 && (t233 == t237)) = false := by simpa using c30
         (try (have c30b1 : decide (t232 = t236 && (t233 == t237)) = false := by simpa using c30))
         (try (have c30b2 : (t232 == t236 && (t233 == t237)) = false := by simpa using c30))
         (try (have c30b3 : ¬ (t232 = t236 && (t233 == t237)) := by simpa using c30))
         clear c30
         exact absurd ((Option.some.inj H).trans hr_.out) (by decide)
       ·rw [if_neg c29] at H
        have c29b0 : (t254 == t256 && (t255 == t257)) = false := by simpa using c29
        (try (have c29b1 : decide (t254 = t256 && (t255 == t257)) = false := by simpa using c29))
        (try (have c29b2 : (t254 == t256 && (t255 == t257)) = false := by simpa using c29))
        (try (have c29b3 : ¬ (t254 = t256 && (t255 == t257)) := by simpa using c29))
        clear c29
        exact absurd ((Option.some.inj H).trans hr_.out) (by decide)
      ·rw [if_neg c26] at H
       have c26b0 : (t250 == t252 && (t251 == t253)) = false := by simpa using c26
       (try (have c26b1 : decide (t250 = t252 && (t251 == t253)) = false := by simpa using c26))
       (try (have c26b2 : (t250 == t252 && (t251 == t253)) = false := by simpa using c26))
       (try (have c26b3 : ¬ (t250 = t252 && (t251 == t253)) := by simpa using c26))
       clear c26
       exact absurd ((Option.some.inj H).trans hr_.out) (by decide)
     ·rw [if_neg c23] at H
      have c23b0 : (t246 == t248 && (t247 == t249)) = false := by simpa using c23
      (try (have c23b1 : decide (t246 = t248 && (t247 == t249)) = false := by simpa using c23))
      (try (have c23b2 : (t246 == t248 && (t247 == t249)) = false := by simpa using c23))
      (try (have c23b3 : ¬ (t246 = t248 && (t247 == t249)) := by simpa using c23))
      clear c23
      exact absurd ((Option.some.inj H).trans hr_.out) (by decide)
    ·rw [if_neg c20] at H
     have c20b0 : (t244 == t245) = false := by simpa using c20
     (try (have c20b1 : decide (t244 = t245) = false := by simpa using c20))
     (try (have c20b2 : (t244 == t245) = false := by simpa using c20))
     (try (have c20b3 : ¬ (t244 = t245) := by simpa using c20))
     clear c20
     exact absurd ((Option.some.inj H).trans hr_.out) (by decide)
   ·rw [if_neg c17] at H
    have c17b0 : (t242 == t243) = false := by simpa using c17
    (try (have c17b1 : decide (t242 = t243) = false := by simpa using c17))
    (try (have c17b2 : (t242 == t243) = false := by simpa using c17))
    (try (have c17b3 : ¬ (t242 = t243) := by simpa using c17))
    clear c17
    exact absurd ((Option.some.inj H).trans hr_.out) (by decide)
  ·rw [if_neg c14] at H
   have c14b0 : (t241 == ((Go.bits .and .u64 a0 a1) == 0)) = false := by simpa using c14
   (try (have c14b1 : decide (t241 = ((Go.bits .and .u64 a0 a1) == 0)) = false := by simpa using c14))
   (try (have c14b2 : (t241 == ((Go.bits .and .u64 a0 a1) == 0)) = false := by simpa using c14))
   (try (have c14b3 : ¬ (t241 = ((Go.bits .and .u64 a0 a1) == 0)) := by simpa using c14))
   clear c14
   exact absurd ((Option.some.inj H).trans hr_.out) (by decide)
 ·replace c12 := Bool.eq_false_iff.mpr c12
  subst c12
  have H1 : (some false) = some r := by rw [if_neg (show ¬ (false = true) by decide)] at H; exact H
  clear H
  have H := H1
  clear H1
  exact absurd ((Option.some.inj H).trans hr_.out) (by decide)
/-- THE ONE PURE STATEMENT of wardenlaw03_TnumSets: yours. -/
def wardenlaw03_TnumSets.Pure : Prop := ∀ (a0 : Int) (a1 : Int) (a2 : Int) (a3 : Int) (a4 : Int) (a5 : Int), (Lit.int .u64 a0).wf = true → (Lit.int .u64 a1).wf = true → (Lit.int .u64 a2).wf = true → (Lit.int .u64 a3).wf = true → (Lit.int .u64 a4).wf = true → (Lit.int .u8 a5).wf = true → ∃ k, wardenlaw03_TnumSets.f k a0 a1 a2 a3 a4 a5 = some true
theorem wardenlaw03_TnumSets.walk (P : wardenlaw03_TnumSets.Pure) (a0 : Int) (a1 : Int) (a2 : Int) (a3 : Int) (a4 : Int) (a5 : Int) (w : World) (w0 : (Lit.int .u64 a0).wf = true) (w1 : (Lit.int .u64 a1).wf = true) (w2 : (Lit.int .u64 a2).wf = true) (w3 : (Lit.int .u64 a3).wf = true) (w4 : (Lit.int .u64 a4).wf = true) (w5 : (Lit.int .u8 a5).wf = true) :
  Calls Try.prog 3 #[.int .u64 a0, .int .u64 a1, .int .u64 a2, .int .u64 a3, .int .u64 a4, .int .u8 a5] w fun e w' => e = .returned (.bool true) ∧ Below w.heap.size w w' := by
 obtain ⟨k, h⟩ := P a0 a1 a2 a3 a4 a5 w0 w1 w2 w3 w4 w5
 refine (wardenlaw03_TnumSets.calls k a0 a1 a2 a3 a4 a5 true w ⟨rfl⟩ h).mono ?_
 rintro e w' ⟨rfl, hd⟩
 exact ⟨rfl, hd⟩

end Go.Proofs.Ytnljfoaacngamaa.PD
