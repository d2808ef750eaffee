-- turned from the kit's print
import Derived.Test.YtnljfoaacngamaaPDx0
import Derived.Test.YtnljfoaacngamaaOnly
import Derived.Test.YtnljfoaacngamaaPDx1
import Derived.Test.YtnljfoaacngamaaPDx2
import Derived.Test.YtnljfoaacngamaaPDx4
import Derived.Test.YtnljfoaacngamaaPDx5
import Derived.Test.YtnljfoaacngamaaPDx7
import Derived.Test.YtnljfoaacngamaaPDx8
import Derived.Test.YtnljfoaacngamaaPDx10
import Derived.Test.YtnljfoaacngamaaPDx12
import Derived.Test.YtnljfoaacngamaaPDx13
namespace Go.Proofs.Ytnljfoaacngamaa.PD
open Go.RowKit Go.Proofs.YtnljfoaacngamaaW.PrintWords Go.Proofs.YtnljfoaacngamaaW.PrintLast Go.Proofs.YtnljfoaacngamaaW.PrintMore
attribute [local go_sem] max2_int min2_int max_two min_two max_three min_three max_four min_four   -- for this text's walks alone
set_option linter.unusedVariables false
set_option linter.unusedSimpArgs false

attribute [local go_sem high] eqA24
/-! ### wardenlaw03_TnumSides: function 7 -/
mutual
def wardenlaw03_TnumSides.j0 : Nat → Bool → Int → Int → Int → Int → Int → Int → Int → Int → Option (Bool)
  | 0, _, _, _, _, _, _, _, _, _ => none
  | k + 1, x13, x491000, x491001, x492000, x492001, x497000, x497001, x498000, x498001 => (tnum_Add.f x491000 x491001 x497000 x497001).bind fun bt518 => (if (bt518.1 == x491000 && (bt518.2 == x491001)) = true then ((tnum_Sub.f x491000 x491001 x497000 x497001).bind fun bt520 => (if (bt520.1 == x491000 && (bt520.2 == x491001)) = true then ((tnum_And.f x491000 x491001 x498000 x498001).bind fun bt522 => (if (bt522.1 == x491000 && (bt522.2 == x491001)) = true then ((tnum_Or.f x491000 x491001 x497000 x497001).bind fun bt524 => (if (bt524.1 == x491000 && (bt524.2 == x491001)) = true then ((tnum_Xor.f x491000 x491001 x497000 x497001).bind fun bt526 => (if (bt526.1 == x491000 && (bt526.2 == x491001)) = true then ((tnum_Join.f x491000 x491001 x491000 x491001).bind fun bt528 => (if (bt528.1 == x491000 && (bt528.2 == x491001)) = true then ((tnum_Mul.f k x491000 x491001 x497000 x497001).bind fun bt530 => (if (bt530.1 == x497000 && (bt530.2 == x497001)) = true then ((tnum_Mul.f k x497000 x497001 x491000 x491001).bind fun bt532 => (wardenlaw03_TnumSides.j1 k x13 (bt532.1 == x497000 && (bt532.2 == x497001)) x491000 x491001 x492000 x492001)) else (wardenlaw03_TnumSides.j1 k x13 false x491000 x491001 x492000 x492001))) else (wardenlaw03_TnumSides.j1 k x13 false x491000 x491001 x492000 x492001))) else (wardenlaw03_TnumSides.j1 k x13 false x491000 x491001 x492000 x492001))) else (wardenlaw03_TnumSides.j1 k x13 false x491000 x491001 x492000 x492001))) else (wardenlaw03_TnumSides.j1 k x13 false x491000 x491001 x492000 x492001))) else (wardenlaw03_TnumSides.j1 k x13 false x491000 x491001 x492000 x492001))) else (wardenlaw03_TnumSides.j1 k x13 false x491000 x491001 x492000 x492001))
def wardenlaw03_TnumSides.j1 : Nat → Bool → Bool → Int → Int → Int → Int → Option (Bool)
  | 0, _, _, _, _, _, _ => none
  | k + 1, x13, x14, x491000, x491001, x492000, x492001 => (tnum_Meet.f x491000 x491001 x492000 x492001).bind fun bt534 => ((tnum_Meet.f x492000 x492001 x491000 x491001).bind fun bt538 => ((tnum_Meet.f x491000 x491001 x491000 x491001).bind fun bt542 => (if x13 = true then (if x14 = true then (if (bt534.1 == bt538.1 && (bt534.2.1 == bt538.2.1)) = true then (if (bt534.2.2 == bt538.2.2) = true then (if (bt542.1 == x491000 && (bt542.2.1 == x491001)) = true then (if bt542.2.2 = true then ((wardenlaw03_works.f k).bind fun t546 => (some t546)) else (some false)) else (some false)) else (some false)) else (some false)) else (some false)) else (some false))))
end
def wardenlaw03_TnumSides.f (k : Nat) (a0 : Int) (a1 : Int) (a2 : Int) (a3 : Int) : Option (Bool) := (wardenlaw03_of.f a0 a1).bind fun bt486 => ((wardenlaw03_of.f a2 a3).bind fun bt488 => ((tnum_Const.f 0).bind fun bt492 => ((tnum_Const.f 18446744073709551615).bind fun bt494 => ((tnum_Add.f bt486.1 bt486.2 bt488.1 bt488.2).bind fun bt498 => ((tnum_Add.f bt488.1 bt488.2 bt486.1 bt486.2).bind fun bt500 => (if (bt498.1 == bt500.1 && (bt498.2 == bt500.2)) = true then ((tnum_And.f bt486.1 bt486.2 bt488.1 bt488.2).bind fun bt502 => ((tnum_And.f bt488.1 bt488.2 bt486.1 bt486.2).bind fun bt504 => (if (bt502.1 == bt504.1 && (bt502.2 == bt504.2)) = true then ((tnum_Or.f bt486.1 bt486.2 bt488.1 bt488.2).bind fun bt506 => ((tnum_Or.f bt488.1 bt488.2 bt486.1 bt486.2).bind fun bt508 => (if (bt506.1 == bt508.1 && (bt506.2 == bt508.2)) = true then ((tnum_Xor.f bt486.1 bt486.2 bt488.1 bt488.2).bind fun bt510 => ((tnum_Xor.f bt488.1 bt488.2 bt486.1 bt486.2).bind fun bt512 => (if (bt510.1 == bt512.1 && (bt510.2 == bt512.2)) = true then ((tnum_Join.f bt486.1 bt486.2 bt488.1 bt488.2).bind fun bt514 => ((tnum_Join.f bt488.1 bt488.2 bt486.1 bt486.2).bind fun bt516 => (wardenlaw03_TnumSides.j0 k (bt514.1 == bt516.1 && (bt514.2 == bt516.2)) bt486.1 bt486.2 bt488.1 bt488.2 bt492.1 bt492.2 bt494.1 bt494.2))) else (wardenlaw03_TnumSides.j0 k false bt486.1 bt486.2 bt488.1 bt488.2 bt492.1 bt492.2 bt494.1 bt494.2)))) else (wardenlaw03_TnumSides.j0 k false bt486.1 bt486.2 bt488.1 bt488.2 bt492.1 bt492.2 bt494.1 bt494.2)))) else (wardenlaw03_TnumSides.j0 k false bt486.1 bt486.2 bt488.1 bt488.2 bt492.1 bt492.2 bt494.1 bt494.2)))) else (wardenlaw03_TnumSides.j0 k false bt486.1 bt486.2 bt488.1 bt488.2 bt492.1 bt492.2 bt494.1 bt494.2)))))))
theorem wardenlaw03_TnumSides.mono_l : ∀ k, (∀ y0 y1 y2 y3 y4 y5 y6 y7 y8, LeO (wardenlaw03_TnumSides.j0 k y0 y1 y2 y3 y4 y5 y6 y7 y8) (wardenlaw03_TnumSides.j0 (k + 1) y0 y1 y2 y3 y4 y5 y6 y7 y8)) ∧ (∀ y0 y1 y2 y3 y4 y5, LeO (wardenlaw03_TnumSides.j1 k y0 y1 y2 y3 y4 y5) (wardenlaw03_TnumSides.j1 (k + 1) y0 y1 y2 y3 y4 y5))
  | 0 => ⟨fun _ _ _ _ _ _ _ _ _ r h => by simp [wardenlaw03_TnumSides.j0] at h, fun _ _ _ _ _ _ r h => by simp [wardenlaw03_TnumSides.j1] at h⟩
  | k + 1 => by
    obtain ⟨ih0, ih1⟩ := wardenlaw03_TnumSides.mono_l k
    refine ⟨?_, ?_⟩
    · intro y0 y1 y2 y3 y4 y5 y6 y7 y8
      unfold wardenlaw03_TnumSides.j0
      repeat' first
      | (with_reducible exact ih0 _ _ _ _ _ _ _ _ _)
      | (with_reducible exact ih1 _ _ _ _ _ _)
      | (with_reducible exact tnum_Mul.mono _ _ _ _ _)
      | (with_reducible exact wardenlaw03_works.mono _)
      | (with_reducible exact LeO.refl _)
      | (with_reducible exact LeO.none _)
      | (with_reducible refine LeO.ite ?_ ?_)
      | (with_reducible refine LeO.bind ?_ (fun _ => ?_))
      | exact ih0 _ _ _ _ _ _ _ _ _
      | exact ih1 _ _ _ _ _ _
      | exact tnum_Mul.mono _ _ _ _ _
      | exact wardenlaw03_works.mono _
      | exact LeO.none _
      | refine LeO.ite ?_ ?_
      | refine LeO.bind ?_ (fun _ => ?_)
    · intro y0 y1 y2 y3 y4 y5
      unfold wardenlaw03_TnumSides.j1
      repeat' first
      | (with_reducible exact ih0 _ _ _ _ _ _ _ _ _)
      | (with_reducible exact ih1 _ _ _ _ _ _)
      | (with_reducible exact tnum_Mul.mono _ _ _ _ _)
      | (with_reducible exact wardenlaw03_works.mono _)
      | (with_reducible exact LeO.refl _)
      | (with_reducible exact LeO.none _)
      | (with_reducible refine LeO.ite ?_ ?_)
      | (with_reducible refine LeO.bind ?_ (fun _ => ?_))
      | exact ih0 _ _ _ _ _ _ _ _ _
      | exact ih1 _ _ _ _ _ _
      | exact tnum_Mul.mono _ _ _ _ _
      | exact wardenlaw03_works.mono _
      | exact LeO.none _
      | refine LeO.ite ?_ ?_
      | refine LeO.bind ?_ (fun _ => ?_)
theorem wardenlaw03_TnumSides.mono : ∀ a0 a1 a2 a3 k, LeO (wardenlaw03_TnumSides.f k a0 a1 a2 a3) (wardenlaw03_TnumSides.f (k + 1) a0 a1 a2 a3) := by
  intro a0 a1 a2 a3 k
  obtain ⟨ih0, ih1⟩ := wardenlaw03_TnumSides.mono_l k
  unfold wardenlaw03_TnumSides.f
  repeat' first
      | (with_reducible exact ih0 _ _ _ _ _ _ _ _ _)
      | (with_reducible exact ih1 _ _ _ _ _ _)
      | (with_reducible exact tnum_Mul.mono _ _ _ _ _)
      | (with_reducible exact wardenlaw03_works.mono _)
      | (with_reducible exact LeO.refl _)
      | (with_reducible exact LeO.none _)
      | (with_reducible refine LeO.ite ?_ ?_)
      | (with_reducible refine LeO.bind ?_ (fun _ => ?_))
      | exact ih0 _ _ _ _ _ _ _ _ _
      | exact ih1 _ _ _ _ _ _
      | exact tnum_Mul.mono _ _ _ _ _
      | exact wardenlaw03_works.mono _
      | exact LeO.none _
      | refine LeO.ite ?_ ?_
      | refine LeO.bind ?_ (fun _ => ?_)
def wardenlaw03_TnumSides.T3 : Bool × List (List Nat × List Nat) := (true, [([], []), ([], []), ([0, 1], [0, 1]), ([], []), ([], []), ([3, 4, 2], [3, 4]), ([2, 5], [2, 5]), ([6, 5], [6]), ([7], [7]), ([7], [7]), ([8, 9, 7, 7], [7, 8, 9]), ([7], [7]), ([7], [7]), ([11, 12, 10, 7], [7, 11, 12]), ([10, 13, 7], [7, 10, 13]), ([7, 14], [7, 14]), ([15, 13], [15]), ([16], [16]), ([16], [16]), ([17, 18, 16, 16], [16, 17, 18]), ([16], [16]), ([16], [16]), ([20, 21, 19, 16], [16, 20, 21]), ([19, 22, 16], [16, 19, 22]), ([16, 23], [16, 23]), ([24, 22], [24]), ([25], [25]), ([25], [25]), ([26, 27, 25, 25], [25, 26, 27]), ([25], [25]), ([25], [25]), ([29, 30, 28, 25], [25, 29, 30]), ([28, 31, 25], [25, 28, 31]), ([25, 32], [25, 32]), ([33, 31], [33]), ([34], [34]), ([34], [34]), ([35, 36, 34, 34], [34, 35, 36]), ([34], [34]), ([34], [34]), ([38, 39, 37, 34], [34, 38, 39]), ([37, 40, 34], [34, 37, 40]), ([34, 41], [34, 41]), ([42, 40, 0, 1, 2, 3, 4, 5, 6, 7, 8, 9, 10, 11, 12, 13, 14, 15, 16, 17, 18, 19, 20, 21, 22, 23, 24, 25, 26, 27, 28, 29, 30, 31, 32, 33, 34, 35, 36, 37, 38, 39, 40, 41, 42], [42])])
def wardenlaw03_TnumSides.B3 : List Nat := [0, 0, 3, 0, 0, 31, 63, 127, 255, 255, 1023, 255, 255, 8191, 16383, 32767, 65535, 131071, 131071, 524287, 131071, 131071, 4194303, 8388607, 16777215, 33554431, 67108863, 67108863, 268435455, 67108863, 67108863, 2147483647, 4294967295, 8589934591, 17179869183, 34359738367, 34359738367, 137438953471, 34359738367, 34359738367, 1099511627775, 2199023255551, 4398046511103, 8796093022207]
theorem wardenlaw03_TnumSides.tab3 : rtab .any (opsOf Try.f7 3) = wardenlaw03_TnumSides.T3 := by kernel_rfl
theorem wardenlaw03_TnumSides.bits3 : waitsOk wardenlaw03_TnumSides.T3.2 wardenlaw03_TnumSides.B3 = true := by kernel_rfl
def wardenlaw03_TnumSides.T4 : Bool × List (List Nat × List Nat) := (true, [([], []), ([], []), ([0, 1], [0, 1]), ([], []), ([2, 3], [2, 3]), ([4, 2], [4]), ([5], [5]), ([5], [5]), ([6, 7, 5, 5], [5, 6, 7]), ([5], [5]), ([8, 9, 5], [5, 8, 9]), ([5, 10], [5, 10]), ([11, 8], [11]), ([12], [12]), ([12], [12]), ([13, 14, 12, 12], [12, 13, 14]), ([12], [12]), ([15, 16, 12], [12, 15, 16]), ([12, 17], [12, 17]), ([18, 15], [18]), ([19], [19]), ([19], [19]), ([20, 21, 19, 19], [19, 20, 21]), ([19], [19]), ([22, 23, 19], [19, 22, 23]), ([19, 24], [19, 24]), ([25, 22], [25]), ([26], [26]), ([26], [26]), ([27, 28, 26, 26], [26, 27, 28]), ([26], [26]), ([29, 30, 26], [26, 29, 30]), ([26, 31], [26, 31]), ([32, 29], [32]), ([33], [33]), ([33], [33]), ([34, 35, 33, 33], [33, 34, 35]), ([33], [33]), ([36, 37, 33], [33, 36, 37]), ([33, 38], [33, 38]), ([39, 36], [39]), ([40], [40]), ([40], [40]), ([41, 42, 40, 40], [40, 41, 42]), ([40], [40]), ([43, 44, 40], [40, 43, 44]), ([40, 45], [40, 45]), ([46, 43], [46]), ([47], [47]), ([47], [47]), ([48, 49, 47, 47], [47, 48, 49]), ([47], [47]), ([50, 51, 47], [47, 50, 51]), ([47, 52], [47, 52]), ([53, 50, 0, 1, 2, 3, 4, 5, 6, 7, 8, 9, 10, 11, 12, 13, 14, 15, 16, 17, 18, 19, 20, 21, 22, 23, 24, 25, 26, 27, 28, 29, 30, 31, 32, 33, 34, 35, 36, 37, 38, 39, 40, 41, 42, 43, 44, 45, 46, 47, 48, 49, 50, 51, 52, 53], [53])])
def wardenlaw03_TnumSides.B4 : List Nat := [0, 0, 3, 0, 15, 31, 63, 63, 255, 63, 1023, 2047, 4095, 8191, 8191, 32767, 8191, 131071, 262143, 524287, 1048575, 1048575, 4194303, 1048575, 16777215, 33554431, 67108863, 134217727, 134217727, 536870911, 134217727, 2147483647, 4294967295, 8589934591, 17179869183, 17179869183, 68719476735, 17179869183, 274877906943, 549755813887, 1099511627775, 2199023255551, 2199023255551, 8796093022207, 2199023255551, 35184372088831, 70368744177663, 140737488355327, 281474976710655, 281474976710655, 1125899906842623, 281474976710655, 4503599627370495, 9007199254740991, 18014398509481983]
theorem wardenlaw03_TnumSides.tab4 : rtab .any (opsOf Try.f7 4) = wardenlaw03_TnumSides.T4 := by kernel_rfl
theorem wardenlaw03_TnumSides.bits4 : waitsOk wardenlaw03_TnumSides.T4.2 wardenlaw03_TnumSides.B4 = true := by kernel_rfl
theorem wardenlaw03_TnumSides.j1_no1 : ∀ x0 x2 x3 x4 x5 x6, wardenlaw03_TnumSides.j1 x0 false x2 x3 x4 x5 x6 ≠ some true := by
  intro x0 x2 x3 x4 x5 x6
  cases x0
  · exact OnlyF.none
  · (simp only [wardenlaw03_TnumSides.j1]; repeat' first | (with_reducible exact OnlyF.no) | (with_reducible refine OnlyF.iteF ?_) | (with_reducible refine OnlyF.ite ?_ ?_) | (with_reducible refine OnlyF.bind (fun _ => ?_)))
theorem wardenlaw03_TnumSides.j0_no1 : ∀ x0 x2 x3 x4 x5 x6 x7 x8 x9, wardenlaw03_TnumSides.j0 x0 false x2 x3 x4 x5 x6 x7 x8 x9 ≠ some true := by
  intro x0 x2 x3 x4 x5 x6 x7 x8 x9
  cases x0
  · exact OnlyF.none
  · (simp only [wardenlaw03_TnumSides.j0]; repeat' first | (with_reducible exact OnlyF.no) | (with_reducible exact wardenlaw03_TnumSides.j1_no1 _ _ _ _ _ _) | (with_reducible refine OnlyF.iteF ?_) | (with_reducible refine OnlyF.ite ?_ ?_) | (with_reducible refine OnlyF.bind (fun _ => ?_)))
theorem wardenlaw03_TnumSides.j1_no2 : ∀ x0 x1 x3 x4 x5 x6, wardenlaw03_TnumSides.j1 x0 x1 false x3 x4 x5 x6 ≠ some true := by
  intro x0 x1 x3 x4 x5 x6
  cases x0
  · exact OnlyF.none
  · (simp only [wardenlaw03_TnumSides.j1]; repeat' first | (with_reducible exact OnlyF.no) | (with_reducible exact wardenlaw03_TnumSides.j1_no1 _ _ _ _ _ _) | (with_reducible refine OnlyF.iteF ?_) | (with_reducible refine OnlyF.ite ?_ ?_) | (with_reducible refine OnlyF.bind (fun _ => ?_)))
set_option maxHeartbeats 8000000 in
set_option maxRecDepth 100000 in
theorem wardenlaw03_TnumSides.calls (k : Nat) (a0 : Int) (a1 : Int) (a2 : Int) (a3 : Int) (r : Bool) (w : World) (hr_ : Aside0 (r = true)) (h : wardenlaw03_TnumSides.f k a0 a1 a2 a3 = some r) :
    Calls Try.prog 7 #[.int .u64 a0, .int .u64 a1, .int .u64 a2, .int .u64 a3] w fun e w' => e = .returned (.bool r) ∧ Below w.heap.size w w' := by
  have hu24 := Try.underlying24
  have HB := Aside0.mk (Below.refl w.heap.size w)
  have H : ((wardenlaw03_of.f a0 a1).bind fun bt486 => ((wardenlaw03_of.f a2 a3).bind fun bt488 => ((tnum_Const.f 0).bind fun bt492 => ((tnum_Const.f 18446744073709551615).bind fun bt494 => ((tnum_Add.f bt486.1 bt486.2 bt488.1 bt488.2).bind fun bt498 => ((tnum_Add.f bt488.1 bt488.2 bt486.1 bt486.2).bind fun bt500 => (if (bt498.1 == bt500.1 && (bt498.2 == bt500.2)) = true then ((tnum_And.f bt486.1 bt486.2 bt488.1 bt488.2).bind fun bt502 => ((tnum_And.f bt488.1 bt488.2 bt486.1 bt486.2).bind fun bt504 => (if (bt502.1 == bt504.1 && (bt502.2 == bt504.2)) = true then ((tnum_Or.f bt486.1 bt486.2 bt488.1 bt488.2).bind fun bt506 => ((tnum_Or.f bt488.1 bt488.2 bt486.1 bt486.2).bind fun bt508 => (if (bt506.1 == bt508.1 && (bt506.2 == bt508.2)) = true then ((tnum_Xor.f bt486.1 bt486.2 bt488.1 bt488.2).bind fun bt510 => ((tnum_Xor.f bt488.1 bt488.2 bt486.1 bt486.2).bind fun bt512 => (if (bt510.1 == bt512.1 && (bt510.2 == bt512.2)) = true then ((tnum_Join.f bt486.1 bt486.2 bt488.1 bt488.2).bind fun bt514 => ((tnum_Join.f bt488.1 bt488.2 bt486.1 bt486.2).bind fun bt516 => (wardenlaw03_TnumSides.j0 k (bt514.1 == bt516.1 && (bt514.2 == bt516.2)) bt486.1 bt486.2 bt488.1 bt488.2 bt492.1 bt492.2 bt494.1 bt494.2))) else (wardenlaw03_TnumSides.j0 k false bt486.1 bt486.2 bt488.1 bt488.2 bt492.1 bt492.2 bt494.1 bt494.2)))) else (wardenlaw03_TnumSides.j0 k false bt486.1 bt486.2 bt488.1 bt488.2 bt492.1 bt492.2 bt494.1 bt494.2)))) else (wardenlaw03_TnumSides.j0 k false bt486.1 bt486.2 bt488.1 bt488.2 bt492.1 bt492.2 bt494.1 bt494.2)))) else (wardenlaw03_TnumSides.j0 k false bt486.1 bt486.2 bt488.1 bt488.2 bt492.1 bt492.2 bt494.1 bt494.2)))))))) = some r := h
  clear h
  replace H := Option.bind_eq_some_iff.mp H
  obtain ⟨⟨t486, t487⟩, A50, H⟩ := H
  replace H : ((wardenlaw03_of.f a2 a3).bind fun bt488 => ((tnum_Const.f 0).bind fun bt492 => ((tnum_Const.f 18446744073709551615).bind fun bt494 => ((tnum_Add.f t486 t487 bt488.1 bt488.2).bind fun bt498 => ((tnum_Add.f bt488.1 bt488.2 t486 t487).bind fun bt500 => (if (bt498.1 == bt500.1 && (bt498.2 == bt500.2)) = true then ((tnum_And.f t486 t487 bt488.1 bt488.2).bind fun bt502 => ((tnum_And.f bt488.1 bt488.2 t486 t487).bind fun bt504 => (if (bt502.1 == bt504.1 && (bt502.2 == bt504.2)) = true then ((tnum_Or.f t486 t487 bt488.1 bt488.2).bind fun bt506 => ((tnum_Or.f bt488.1 bt488.2 t486 t487).bind fun bt508 => (if (bt506.1 == bt508.1 && (bt506.2 == bt508.2)) = true then ((tnum_Xor.f t486 t487 bt488.1 bt488.2).bind fun bt510 => ((tnum_Xor.f bt488.1 bt488.2 t486 t487).bind fun bt512 => (if (bt510.1 == bt512.1 && (bt510.2 == bt512.2)) = true then ((tnum_Join.f t486 t487 bt488.1 bt488.2).bind fun bt514 => ((tnum_Join.f bt488.1 bt488.2 t486 t487).bind fun bt516 => (wardenlaw03_TnumSides.j0 k (bt514.1 == bt516.1 && (bt514.2 == bt516.2)) t486 t487 bt488.1 bt488.2 bt492.1 bt492.2 bt494.1 bt494.2))) else (wardenlaw03_TnumSides.j0 k false t486 t487 bt488.1 bt488.2 bt492.1 bt492.2 bt494.1 bt494.2)))) else (wardenlaw03_TnumSides.j0 k false t486 t487 bt488.1 bt488.2 bt492.1 bt492.2 bt494.1 bt494.2)))) else (wardenlaw03_TnumSides.j0 k false t486 t487 bt488.1 bt488.2 bt492.1 bt492.2 bt494.1 bt494.2)))) else (wardenlaw03_TnumSides.j0 k false t486 t487 bt488.1 bt488.2 bt492.1 bt492.2 bt494.1 bt494.2))))))) = some r := H
  have A5 := Aside0.mk A50
  clear A50
  replace H := Option.bind_eq_some_iff.mp H
  obtain ⟨⟨t488, t489⟩, A60, H⟩ := H
  replace H : ((tnum_Const.f 0).bind fun bt492 => ((tnum_Const.f 18446744073709551615).bind fun bt494 => ((tnum_Add.f t486 t487 t488 t489).bind fun bt498 => ((tnum_Add.f t488 t489 t486 t487).bind fun bt500 => (if (bt498.1 == bt500.1 && (bt498.2 == bt500.2)) = true then ((tnum_And.f t486 t487 t488 t489).bind fun bt502 => ((tnum_And.f t488 t489 t486 t487).bind fun bt504 => (if (bt502.1 == bt504.1 && (bt502.2 == bt504.2)) = true then ((tnum_Or.f t486 t487 t488 t489).bind fun bt506 => ((tnum_Or.f t488 t489 t486 t487).bind fun bt508 => (if (bt506.1 == bt508.1 && (bt506.2 == bt508.2)) = true then ((tnum_Xor.f t486 t487 t488 t489).bind fun bt510 => ((tnum_Xor.f t488 t489 t486 t487).bind fun bt512 => (if (bt510.1 == bt512.1 && (bt510.2 == bt512.2)) = true then ((tnum_Join.f t486 t487 t488 t489).bind fun bt514 => ((tnum_Join.f t488 t489 t486 t487).bind fun bt516 => (wardenlaw03_TnumSides.j0 k (bt514.1 == bt516.1 && (bt514.2 == bt516.2)) t486 t487 t488 t489 bt492.1 bt492.2 bt494.1 bt494.2))) else (wardenlaw03_TnumSides.j0 k false t486 t487 t488 t489 bt492.1 bt492.2 bt494.1 bt494.2)))) else (wardenlaw03_TnumSides.j0 k false t486 t487 t488 t489 bt492.1 bt492.2 bt494.1 bt494.2)))) else (wardenlaw03_TnumSides.j0 k false t486 t487 t488 t489 bt492.1 bt492.2 bt494.1 bt494.2)))) else (wardenlaw03_TnumSides.j0 k false t486 t487 t488 t489 bt492.1 bt492.2 bt494.1 bt494.2)))))) = some r := H
  have A6 := Aside0.mk A60
  clear A60
  replace H := Option.bind_eq_some_iff.mp H
  obtain ⟨⟨t492, t493⟩, A70, H⟩ := H
  replace H : ((tnum_Const.f 18446744073709551615).bind fun bt494 => ((tnum_Add.f t486 t487 t488 t489).bind fun bt498 => ((tnum_Add.f t488 t489 t486 t487).bind fun bt500 => (if (bt498.1 == bt500.1 && (bt498.2 == bt500.2)) = true then ((tnum_And.f t486 t487 t488 t489).bind fun bt502 => ((tnum_And.f t488 t489 t486 t487).bind fun bt504 => (if (bt502.1 == bt504.1 && (bt502.2 == bt504.2)) = true then ((tnum_Or.f t486 t487 t488 t489).bind fun bt506 => ((tnum_Or.f t488 t489 t486 t487).bind fun bt508 => (if (bt506.1 == bt508.1 && (bt506.2 == bt508.2)) = true then ((tnum_Xor.f t486 t487 t488 t489).bind fun bt510 => ((tnum_Xor.f t488 t489 t486 t487).bind fun bt512 => (if (bt510.1 == bt512.1 && (bt510.2 == bt512.2)) = true then ((tnum_Join.f t486 t487 t488 t489).bind fun bt514 => ((tnum_Join.f t488 t489 t486 t487).bind fun bt516 => (wardenlaw03_TnumSides.j0 k (bt514.1 == bt516.1 && (bt514.2 == bt516.2)) t486 t487 t488 t489 t492 t493 bt494.1 bt494.2))) else (wardenlaw03_TnumSides.j0 k false t486 t487 t488 t489 t492 t493 bt494.1 bt494.2)))) else (wardenlaw03_TnumSides.j0 k false t486 t487 t488 t489 t492 t493 bt494.1 bt494.2)))) else (wardenlaw03_TnumSides.j0 k false t486 t487 t488 t489 t492 t493 bt494.1 bt494.2)))) else (wardenlaw03_TnumSides.j0 k false t486 t487 t488 t489 t492 t493 bt494.1 bt494.2))))) = some r := H
  have A7 := Aside0.mk A70
  clear A70
  replace H := Option.bind_eq_some_iff.mp H
  obtain ⟨⟨t494, t495⟩, A80, H⟩ := H
  replace H : ((tnum_Add.f t486 t487 t488 t489).bind fun bt498 => ((tnum_Add.f t488 t489 t486 t487).bind fun bt500 => (if (bt498.1 == bt500.1 && (bt498.2 == bt500.2)) = true then ((tnum_And.f t486 t487 t488 t489).bind fun bt502 => ((tnum_And.f t488 t489 t486 t487).bind fun bt504 => (if (bt502.1 == bt504.1 && (bt502.2 == bt504.2)) = true then ((tnum_Or.f t486 t487 t488 t489).bind fun bt506 => ((tnum_Or.f t488 t489 t486 t487).bind fun bt508 => (if (bt506.1 == bt508.1 && (bt506.2 == bt508.2)) = true then ((tnum_Xor.f t486 t487 t488 t489).bind fun bt510 => ((tnum_Xor.f t488 t489 t486 t487).bind fun bt512 => (if (bt510.1 == bt512.1 && (bt510.2 == bt512.2)) = true then ((tnum_Join.f t486 t487 t488 t489).bind fun bt514 => ((tnum_Join.f t488 t489 t486 t487).bind fun bt516 => (wardenlaw03_TnumSides.j0 k (bt514.1 == bt516.1 && (bt514.2 == bt516.2)) t486 t487 t488 t489 t492 t493 t494 t495))) else (wardenlaw03_TnumSides.j0 k false t486 t487 t488 t489 t492 t493 t494 t495)))) else (wardenlaw03_TnumSides.j0 k false t486 t487 t488 t489 t492 t493 t494 t495)))) else (wardenlaw03_TnumSides.j0 k false t486 t487 t488 t489 t492 t493 t494 t495)))) else (wardenlaw03_TnumSides.j0 k false t486 t487 t488 t489 t492 t493 t494 t495)))) = some r := H
  have A8 := Aside0.mk A80
  clear A80
  have HC9 := Aside0.mk H
  clear H
  go_enter Try.func7, Try.ntmps7
  go_upto_region 3 with (first | ((with_reducible refine gate_callee (f := 9) rfl ?_); refine goesL_ (some 23) rfl rfl Try.func9 (by kernel_rfl) rfl #[.int .u64 a0, .int .u64 a1] rfl (by (try simp only [List.map_toArray, List.map_cons, List.map_nil]); first | done | rfl | (simp only [List.length_drop, List.length_take]; rfl)) ?_; (with_reducible refine (wardenlaw03_of.calls a0 a1 t486 t487 _ A5.out).mono ?_); rintro e w10 ⟨rfl, hb⟩; refine ⟨_, rfl, ?_⟩; have n0_ := Aside0.mk (below_step (by repeat (first | (with_reducible first | exact HB.out | apply below_alloc | apply pw_below_drewN | apply below_drew1) | exact HB.out)) hb); clear HB; have HB := n0_; clear n0_; (try clear hb); (try clear hb2); (try clear hk); (try clear hi)) | ((with_reducible refine gate_callee (f := 9) rfl ?_); refine goesL_ (some 26) rfl rfl Try.func9 (by kernel_rfl) rfl #[.int .u64 a2, .int .u64 a3] rfl (by (try simp only [List.map_toArray, List.map_cons, List.map_nil]); first | done | rfl | (simp only [List.length_drop, List.length_take]; rfl)) ?_; (with_reducible refine (wardenlaw03_of.calls a2 a3 t488 t489 _ A6.out).mono ?_); rintro e w11 ⟨rfl, hb⟩; refine ⟨_, rfl, ?_⟩; have n0_ := Aside0.mk (below_step (by repeat (first | (with_reducible first | exact HB.out | apply below_alloc | apply pw_below_drewN | apply below_drew1) | exact HB.out)) hb); clear HB; have HB := n0_; clear n0_; (try clear hb); (try clear hb2); (try clear hk); (try clear hi)) | ((with_reducible refine gate_dst (N := 9) rfl ?_); refine box_event ?hg (N := 9) ?hd (cs := #[.int .u64 0, .int .u64 0]) (t := 24) ?hr ?_; (case hd => rfl); (case hg => rfl); (case hr => first | (go_simp; done) | (go_simp; rfl)); intro gb490 hg w12 hbox hb; have n0_ := Aside0.mk (below_step (by repeat (first | (with_reducible first | exact HB.out | apply below_alloc | apply pw_below_drewN | apply below_drew1) | exact HB.out)) hb); have n1_ := Aside0.mk (hbox); have n2_ := Aside0.mk ((by rw [hg]; exact (below_size (by repeat (first | (with_reducible first | exact HB.out | apply below_alloc | apply pw_below_drewN | apply below_drew1) | exact HB.out))) : w.heap.size ≤ gb490)); have n3_ := Aside0.mk ((by rw [hg]; exact (below_size (by repeat (first | (with_reducible first | exact HB.out | apply below_alloc | apply pw_below_drewN | apply below_drew1) | exact HB.out))) : w.heap.size ≤ gb490)); clear HB; have HB := n0_; have BK490 := n1_; have GW490 := n2_; have GE490 := n3_; clear n0_ n1_ n2_ n3_; clear hb hbox hg) | ((with_reducible refine gate_dst (N := 10) rfl ?_); refine box_event ?hg (N := 10) ?hd (cs := #[.int .u64 0, .int .u64 0]) (t := 24) ?hr ?_; (case hd => rfl); (case hg => rfl); (case hr => first | (go_simp; done) | (go_simp; rfl)); intro gb491 hg w13 hbox hb; have n0_ := Aside0.mk (blk_below (g := gb490) (o := .cells #[.int .u64 0, .int .u64 0] 24 (0, 0)) (by (with_reducible repeat (first | refine blk_drewN ?_ _ | refine blk_drew ?_ | refine blk_alloc ?_ _)); exact BK490.out) hb); have n1_ := Aside0.mk (below_step (by repeat (first | (with_reducible first | exact HB.out | apply below_alloc | apply pw_below_drewN | apply below_drew1 | refine below_set ?_ GE490.out) | exact HB.out)) hb); have n2_ := Aside0.mk (hbox); have n3_ := Aside0.mk ((by rw [hg]; exact (below_size (by repeat (first | (with_reducible first | exact HB.out | apply below_alloc | apply pw_below_drewN | apply below_drew1 | refine below_set ?_ GE490.out) | exact HB.out))) : w.heap.size ≤ gb491)); have n4_ := Aside0.mk ((by rw [hg]; exact (below_size (by repeat (first | (with_reducible first | exact HB.out | apply below_alloc | apply pw_below_drewN | apply below_drew1 | refine below_set ?_ GE490.out) | exact HB.out))) : w.heap.size ≤ gb491)); have n5_ := Aside0.mk ((by rw [hg]; exact Nat.ne_of_lt (blk_lt (g := gb490) (o := .cells #[.int .u64 0, .int .u64 0] 24 (0, 0)) (by (with_reducible repeat (first | refine blk_drewN ?_ _ | refine blk_drew ?_ | refine blk_alloc ?_ _)); exact BK490.out)) : gb490 ≠ gb491)); have n6_ := Aside0.mk ((by rw [hg]; exact Nat.ne_of_gt (blk_lt (g := gb490) (o := .cells #[.int .u64 0, .int .u64 0] 24 (0, 0)) (by (with_reducible repeat (first | refine blk_drewN ?_ _ | refine blk_drew ?_ | refine blk_alloc ?_ _)); exact BK490.out)) : gb491 ≠ gb490)); clear BK490; clear HB; have BK490 := n0_; have HB := n1_; have BK491 := n2_; have GW491 := n3_; have GE491 := n4_; have NB490_491 := n5_; have NB491_490 := n6_; clear n0_ n1_ n2_ n3_ n4_ n5_ n6_; clear hb hbox hg; have hnb14 := NB490_491.out; have hnc14 := NB491_490.out; have hcz15_0 : w13.cell? ⟨gb490, 0, none⟩ = some (.int .u64 0) := (blk_cell BK490.out 0).trans rfl; have hcz15_1 : w13.cell? ⟨gb490, 1, none⟩ = some (.int .u64 0) := (blk_cell BK490.out 1).trans rfl; have hfz15_0 := blk_frozen BK490.out 0; have hfz15_1 := blk_frozen BK490.out 1; have hcz16_0 : w13.cell? ⟨gb491, 0, none⟩ = some (.int .u64 0) := (blk_cell BK491.out 0).trans rfl; have hcz16_1 : w13.cell? ⟨gb491, 1, none⟩ = some (.int .u64 0) := (blk_cell BK491.out 1).trans rfl; have hfz16_0 := blk_frozen BK491.out 0; have hfz16_1 := blk_frozen BK491.out 1) | ((with_reducible refine gate_callee (f := 17) rfl ?_); refine goesL_ (some 27) rfl rfl Try.func17 (by kernel_rfl) rfl #[.int .u64 0] rfl (by (try simp only [List.map_toArray, List.map_cons, List.map_nil]); first | done | rfl | (simp only [List.length_drop, List.length_take]; rfl)) ?_; (with_reducible refine (tnum_Const.calls 0 t492 t493 _ A7.out).mono ?_); rintro e w17 ⟨rfl, hb⟩; refine ⟨_, rfl, ?_⟩; have n0_ := Aside0.mk (blk_below (g := gb490) (o := .cells #[.int .u64 t486, .int .u64 t487] 24 (0, 0)) (by (with_reducible repeat (first | refine blk_drewN ?_ _ | refine blk_drew ?_ | refine blk_alloc ?_ _)); refine blk_far ?_ NB490_491.out _; (with_reducible repeat (first | refine blk_drewN ?_ _ | refine blk_drew ?_ | refine blk_alloc ?_ _)); refine blk_far ?_ NB490_491.out _; (with_reducible repeat (first | refine blk_drewN ?_ _ | refine blk_drew ?_ | refine blk_alloc ?_ _)); refine blk_put (cs := #[.int .u64 t486, .int .u64 0]) ?_ 1 _ rfl; (with_reducible repeat (first | refine blk_drewN ?_ _ | refine blk_drew ?_ | refine blk_alloc ?_ _)); refine blk_put (cs := #[.int .u64 0, .int .u64 0]) ?_ 0 _ rfl; (with_reducible repeat (first | refine blk_drewN ?_ _ | refine blk_drew ?_ | refine blk_alloc ?_ _)); exact BK490.out) hb); have n1_ := Aside0.mk (blk_below (g := gb491) (o := .cells #[.int .u64 t488, .int .u64 t489] 24 (0, 0)) (by (with_reducible repeat (first | refine blk_drewN ?_ _ | refine blk_drew ?_ | refine blk_alloc ?_ _)); refine blk_put (cs := #[.int .u64 t488, .int .u64 0]) ?_ 1 _ rfl; (with_reducible repeat (first | refine blk_drewN ?_ _ | refine blk_drew ?_ | refine blk_alloc ?_ _)); refine blk_put (cs := #[.int .u64 0, .int .u64 0]) ?_ 0 _ rfl; (with_reducible repeat (first | refine blk_drewN ?_ _ | refine blk_drew ?_ | refine blk_alloc ?_ _)); refine blk_far ?_ NB491_490.out _; (with_reducible repeat (first | refine blk_drewN ?_ _ | refine blk_drew ?_ | refine blk_alloc ?_ _)); refine blk_far ?_ NB491_490.out _; (with_reducible repeat (first | refine blk_drewN ?_ _ | refine blk_drew ?_ | refine blk_alloc ?_ _)); exact BK491.out) hb); have n2_ := Aside0.mk (below_step (by repeat (first | (with_reducible first | exact HB.out | apply below_alloc | apply pw_below_drewN | apply below_drew1 | refine below_set ?_ GE490.out | refine below_set ?_ GE491.out) | exact HB.out)) hb); clear BK490; clear BK491; clear HB; have BK490 := n0_; have BK491 := n1_; have HB := n2_; clear n0_ n1_ n2_; (try clear hb); (try clear hb2); (try clear hk); (try clear hi)) | ((with_reducible refine gate_callee (f := 17) rfl ?_); refine goesL_ (some 28) rfl rfl Try.func17 (by kernel_rfl) rfl #[.int .u64 18446744073709551615] rfl (by (try simp only [List.map_toArray, List.map_cons, List.map_nil]); first | done | rfl | (simp only [List.length_drop, List.length_take]; rfl)) ?_; (with_reducible refine (tnum_Const.calls 18446744073709551615 t494 t495 _ A8.out).mono ?_); rintro e w18 ⟨rfl, hb⟩; refine ⟨_, rfl, ?_⟩; have n0_ := Aside0.mk (blk_below (g := gb490) (o := .cells #[.int .u64 t486, .int .u64 t487] 24 (0, 0)) (by (with_reducible repeat (first | refine blk_drewN ?_ _ | refine blk_drew ?_ | refine blk_alloc ?_ _)); exact BK490.out) hb); have n1_ := Aside0.mk (blk_below (g := gb491) (o := .cells #[.int .u64 t488, .int .u64 t489] 24 (0, 0)) (by (with_reducible repeat (first | refine blk_drewN ?_ _ | refine blk_drew ?_ | refine blk_alloc ?_ _)); exact BK491.out) hb); have n2_ := Aside0.mk (below_step (by repeat (first | (with_reducible first | exact HB.out | apply below_alloc | apply pw_below_drewN | apply below_drew1 | refine below_set ?_ GE490.out | refine below_set ?_ GE491.out) | exact HB.out)) hb); clear BK490; clear BK491; clear HB; have BK490 := n0_; have BK491 := n1_; have HB := n2_; clear n0_ n1_ n2_; (try clear hb); (try clear hb2); (try clear hk); (try clear hi)) | ((with_reducible refine gate_dst (N := 11) rfl ?_); refine box_event ?hg (N := 11) ?hd (cs := #[.int .u64 0, .int .u64 0]) (t := 24) ?hr ?_; (case hd => rfl); (case hg => rfl); (case hr => first | (go_simp; done) | (go_simp; rfl)); intro gb496 hg w19 hbox hb; have n0_ := Aside0.mk (blk_below (g := gb490) (o := .cells #[.int .u64 t486, .int .u64 t487] 24 (0, 0)) (by (with_reducible repeat (first | refine blk_drewN ?_ _ | refine blk_drew ?_ | refine blk_alloc ?_ _)); exact BK490.out) hb); have n1_ := Aside0.mk (blk_below (g := gb491) (o := .cells #[.int .u64 t488, .int .u64 t489] 24 (0, 0)) (by (with_reducible repeat (first | refine blk_drewN ?_ _ | refine blk_drew ?_ | refine blk_alloc ?_ _)); exact BK491.out) hb); have n2_ := Aside0.mk (below_step (by repeat (first | (with_reducible first | exact HB.out | apply below_alloc | apply pw_below_drewN | apply below_drew1 | refine below_set ?_ GE490.out | refine below_set ?_ GE491.out) | exact HB.out)) hb); have n3_ := Aside0.mk (hbox); have n4_ := Aside0.mk ((by rw [hg]; exact (below_size (by repeat (first | (with_reducible first | exact HB.out | apply below_alloc | apply pw_below_drewN | apply below_drew1 | refine below_set ?_ GE490.out | refine below_set ?_ GE491.out) | exact HB.out))) : w.heap.size ≤ gb496)); have n5_ := Aside0.mk ((by rw [hg]; exact (below_size (by repeat (first | (with_reducible first | exact HB.out | apply below_alloc | apply pw_below_drewN | apply below_drew1 | refine below_set ?_ GE490.out | refine below_set ?_ GE491.out) | exact HB.out))) : w.heap.size ≤ gb496)); have n6_ := Aside0.mk ((by rw [hg]; exact Nat.ne_of_lt (blk_lt (g := gb490) (o := .cells #[.int .u64 t486, .int .u64 t487] 24 (0, 0)) (by (with_reducible repeat (first | refine blk_drewN ?_ _ | refine blk_drew ?_ | refine blk_alloc ?_ _)); exact BK490.out)) : gb490 ≠ gb496)); have n7_ := Aside0.mk ((by rw [hg]; exact Nat.ne_of_gt (blk_lt (g := gb490) (o := .cells #[.int .u64 t486, .int .u64 t487] 24 (0, 0)) (by (with_reducible repeat (first | refine blk_drewN ?_ _ | refine blk_drew ?_ | refine blk_alloc ?_ _)); exact BK490.out)) : gb496 ≠ gb490)); have n8_ := Aside0.mk ((by rw [hg]; exact Nat.ne_of_lt (blk_lt (g := gb491) (o := .cells #[.int .u64 t488, .int .u64 t489] 24 (0, 0)) (by (with_reducible repeat (first | refine blk_drewN ?_ _ | refine blk_drew ?_ | refine blk_alloc ?_ _)); exact BK491.out)) : gb491 ≠ gb496)); have n9_ := Aside0.mk ((by rw [hg]; exact Nat.ne_of_gt (blk_lt (g := gb491) (o := .cells #[.int .u64 t488, .int .u64 t489] 24 (0, 0)) (by (with_reducible repeat (first | refine blk_drewN ?_ _ | refine blk_drew ?_ | refine blk_alloc ?_ _)); exact BK491.out)) : gb496 ≠ gb491)); clear BK490; clear BK491; clear HB; have BK490 := n0_; have BK491 := n1_; have HB := n2_; have BK496 := n3_; have GW496 := n4_; have GE496 := n5_; have NB490_496 := n6_; have NB496_490 := n7_; have NB491_496 := n8_; have NB496_491 := n9_; clear n0_ n1_ n2_ n3_ n4_ n5_ n6_ n7_ n8_ n9_; clear hb hbox hg) | ((with_reducible refine gate_dst (N := 12) rfl ?_); refine box_event ?hg (N := 12) ?hd (cs := #[.int .u64 0, .int .u64 0]) (t := 24) ?hr ?_; (case hd => rfl); (case hg => rfl); (case hr => first | (go_simp; done) | (go_simp; rfl)); intro gb497 hg w20 hbox hb; have n0_ := Aside0.mk (blk_below (g := gb490) (o := .cells #[.int .u64 t486, .int .u64 t487] 24 (0, 0)) (by (with_reducible repeat (first | refine blk_drewN ?_ _ | refine blk_drew ?_ | refine blk_alloc ?_ _)); exact BK490.out) hb); have n1_ := Aside0.mk (blk_below (g := gb491) (o := .cells #[.int .u64 t488, .int .u64 t489] 24 (0, 0)) (by (with_reducible repeat (first | refine blk_drewN ?_ _ | refine blk_drew ?_ | refine blk_alloc ?_ _)); exact BK491.out) hb); have n2_ := Aside0.mk (blk_below (g := gb496) (o := .cells #[.int .u64 0, .int .u64 0] 24 (0, 0)) (by (with_reducible repeat (first | refine blk_drewN ?_ _ | refine blk_drew ?_ | refine blk_alloc ?_ _)); exact BK496.out) hb); have n3_ := Aside0.mk (below_step (by repeat (first | (with_reducible first | exact HB.out | apply below_alloc | apply pw_below_drewN | apply below_drew1 | refine below_set ?_ GE490.out | refine below_set ?_ GE491.out | refine below_set ?_ GE496.out) | exact HB.out)) hb); have n4_ := Aside0.mk (hbox); have n5_ := Aside0.mk ((by rw [hg]; exact (below_size (by repeat (first | (with_reducible first | exact HB.out | apply below_alloc | apply pw_below_drewN | apply below_drew1 | refine below_set ?_ GE490.out | refine below_set ?_ GE491.out | refine below_set ?_ GE496.out) | exact HB.out))) : w.heap.size ≤ gb497)); have n6_ := Aside0.mk ((by rw [hg]; exact (below_size (by repeat (first | (with_reducible first | exact HB.out | apply below_alloc | apply pw_below_drewN | apply below_drew1 | refine below_set ?_ GE490.out | refine below_set ?_ GE491.out | refine below_set ?_ GE496.out) | exact HB.out))) : w.heap.size ≤ gb497)); have n7_ := Aside0.mk ((by rw [hg]; exact Nat.ne_of_lt (blk_lt (g := gb490) (o := .cells #[.int .u64 t486, .int .u64 t487] 24 (0, 0)) (by (with_reducible repeat (first | refine blk_drewN ?_ _ | refine blk_drew ?_ | refine blk_alloc ?_ _)); exact BK490.out)) : gb490 ≠ gb497)); have n8_ := Aside0.mk ((by rw [hg]; exact Nat.ne_of_gt (blk_lt (g := gb490) (o := .cells #[.int .u64 t486, .int .u64 t487] 24 (0, 0)) (by (with_reducible repeat (first | refine blk_drewN ?_ _ | refine blk_drew ?_ | refine blk_alloc ?_ _)); exact BK490.out)) : gb497 ≠ gb490)); have n9_ := Aside0.mk ((by rw [hg]; exact Nat.ne_of_lt (blk_lt (g := gb491) (o := .cells #[.int .u64 t488, .int .u64 t489] 24 (0, 0)) (by (with_reducible repeat (first | refine blk_drewN ?_ _ | refine blk_drew ?_ | refine blk_alloc ?_ _)); exact BK491.out)) : gb491 ≠ gb497)); have n10_ := Aside0.mk ((by rw [hg]; exact Nat.ne_of_gt (blk_lt (g := gb491) (o := .cells #[.int .u64 t488, .int .u64 t489] 24 (0, 0)) (by (with_reducible repeat (first | refine blk_drewN ?_ _ | refine blk_drew ?_ | refine blk_alloc ?_ _)); exact BK491.out)) : gb497 ≠ gb491)); have n11_ := Aside0.mk ((by rw [hg]; exact Nat.ne_of_lt (blk_lt (g := gb496) (o := .cells #[.int .u64 0, .int .u64 0] 24 (0, 0)) (by (with_reducible repeat (first | refine blk_drewN ?_ _ | refine blk_drew ?_ | refine blk_alloc ?_ _)); exact BK496.out)) : gb496 ≠ gb497)); have n12_ := Aside0.mk ((by rw [hg]; exact Nat.ne_of_gt (blk_lt (g := gb496) (o := .cells #[.int .u64 0, .int .u64 0] 24 (0, 0)) (by (with_reducible repeat (first | refine blk_drewN ?_ _ | refine blk_drew ?_ | refine blk_alloc ?_ _)); exact BK496.out)) : gb497 ≠ gb496)); clear BK490; clear BK491; clear BK496; clear HB; have BK490 := n0_; have BK491 := n1_; have BK496 := n2_; have HB := n3_; have BK497 := n4_; have GW497 := n5_; have GE497 := n6_; have NB490_497 := n7_; have NB497_490 := n8_; have NB491_497 := n9_; have NB497_491 := n10_; have NB496_497 := n11_; have NB497_496 := n12_; clear n0_ n1_ n2_ n3_ n4_ n5_ n6_ n7_ n8_ n9_ n10_ n11_ n12_; clear hb hbox hg; have hnb21 := NB496_490.out; have hnc21 := NB490_496.out; have hnb22 := NB496_491.out; have hnc22 := NB491_496.out; have hnb23 := NB496_497.out; have hnc23 := NB497_496.out; have hcz24_0 : w20.cell? ⟨gb496, 0, none⟩ = some (.int .u64 0) := (blk_cell BK496.out 0).trans rfl; have hcz24_1 : w20.cell? ⟨gb496, 1, none⟩ = some (.int .u64 0) := (blk_cell BK496.out 1).trans rfl; have hfz24_0 := blk_frozen BK496.out 0; have hfz24_1 := blk_frozen BK496.out 1; have hnb25 := NB497_490.out; have hnc25 := NB490_497.out; have hnb26 := NB497_491.out; have hnc26 := NB491_497.out; have hcz27_0 : w20.cell? ⟨gb497, 0, none⟩ = some (.int .u64 0) := (blk_cell BK497.out 0).trans rfl; have hcz27_1 : w20.cell? ⟨gb497, 1, none⟩ = some (.int .u64 0) := (blk_cell BK497.out 1).trans rfl; have hfz27_0 := blk_frozen BK497.out 0; have hfz27_1 := blk_frozen BK497.out 1))
  (try simp only [Act.put, List.setIfInBounds_toArray, List.set_cons_zero, List.set_cons_succ])
  go_cut [13] (fun v13 wc => ∃ (kq : Nat) (x13_8 : Bool), v13 = .bool x13_8 ∧ Aside0 (wardenlaw03_TnumSides.j0 kq x13_8 t486 t487 t488 t489 t492 t493 t494 t495 = some r) ∧ Aside0 (kq ≤ k) ∧ Aside0 (wc.heap[gb490]? = some (.cells #[.int .u64 t486, .int .u64 t487] 24 (0, 0))) ∧ Aside0 (wc.heap[gb491]? = some (.cells #[.int .u64 t488, .int .u64 t489] 24 (0, 0))) ∧ Aside0 (wc.heap[gb496]? = some (.cells #[.int .u64 t492, .int .u64 t493] 24 (0, 0))) ∧ Aside0 (wc.heap[gb497]? = some (.cells #[.int .u64 t494, .int .u64 t495] 24 (0, 0))) ∧ Aside0 (Below w.heap.size w wc))
  case first =>
    have H := HC9.out
    clear HC9
    replace H := Option.bind_eq_some_iff.mp H
    obtain ⟨⟨t498, t499⟩, A280, H⟩ := H
    replace H : ((tnum_Add.f t488 t489 t486 t487).bind fun bt500 => (if (t498 == bt500.1 && (t499 == bt500.2)) = true then ((tnum_And.f t486 t487 t488 t489).bind fun bt502 => ((tnum_And.f t488 t489 t486 t487).bind fun bt504 => (if (bt502.1 == bt504.1 && (bt502.2 == bt504.2)) = true then ((tnum_Or.f t486 t487 t488 t489).bind fun bt506 => ((tnum_Or.f t488 t489 t486 t487).bind fun bt508 => (if (bt506.1 == bt508.1 && (bt506.2 == bt508.2)) = true then ((tnum_Xor.f t486 t487 t488 t489).bind fun bt510 => ((tnum_Xor.f t488 t489 t486 t487).bind fun bt512 => (if (bt510.1 == bt512.1 && (bt510.2 == bt512.2)) = true then ((tnum_Join.f t486 t487 t488 t489).bind fun bt514 => ((tnum_Join.f t488 t489 t486 t487).bind fun bt516 => (wardenlaw03_TnumSides.j0 k (bt514.1 == bt516.1 && (bt514.2 == bt516.2)) t486 t487 t488 t489 t492 t493 t494 t495))) else (wardenlaw03_TnumSides.j0 k false t486 t487 t488 t489 t492 t493 t494 t495)))) else (wardenlaw03_TnumSides.j0 k false t486 t487 t488 t489 t492 t493 t494 t495)))) else (wardenlaw03_TnumSides.j0 k false t486 t487 t488 t489 t492 t493 t494 t495)))) else (wardenlaw03_TnumSides.j0 k false t486 t487 t488 t489 t492 t493 t494 t495))) = some r := H
    have A28 := Aside0.mk A280
    clear A280
    replace H := Option.bind_eq_some_iff.mp H
    obtain ⟨⟨t500, t501⟩, A290, H⟩ := H
    replace H : (if (t498 == t500 && (t499 == t501)) = true then ((tnum_And.f t486 t487 t488 t489).bind fun bt502 => ((tnum_And.f t488 t489 t486 t487).bind fun bt504 => (if (bt502.1 == bt504.1 && (bt502.2 == bt504.2)) = true then ((tnum_Or.f t486 t487 t488 t489).bind fun bt506 => ((tnum_Or.f t488 t489 t486 t487).bind fun bt508 => (if (bt506.1 == bt508.1 && (bt506.2 == bt508.2)) = true then ((tnum_Xor.f t486 t487 t488 t489).bind fun bt510 => ((tnum_Xor.f t488 t489 t486 t487).bind fun bt512 => (if (bt510.1 == bt512.1 && (bt510.2 == bt512.2)) = true then ((tnum_Join.f t486 t487 t488 t489).bind fun bt514 => ((tnum_Join.f t488 t489 t486 t487).bind fun bt516 => (wardenlaw03_TnumSides.j0 k (bt514.1 == bt516.1 && (bt514.2 == bt516.2)) t486 t487 t488 t489 t492 t493 t494 t495))) else (wardenlaw03_TnumSides.j0 k false t486 t487 t488 t489 t492 t493 t494 t495)))) else (wardenlaw03_TnumSides.j0 k false t486 t487 t488 t489 t492 t493 t494 t495)))) else (wardenlaw03_TnumSides.j0 k false t486 t487 t488 t489 t492 t493 t494 t495)))) else (wardenlaw03_TnumSides.j0 k false t486 t487 t488 t489 t492 t493 t494 t495)) = some r := H
    have A29 := Aside0.mk A290
    clear A290
    by_cases c30 : (t498 == t500 && (t499 == t501)) = true
    · rw [if_pos c30] at H
      have c30b0 : (t498 == t500 && (t499 == t501)) = true := c30
      (try (have c30b1 : decide (t498 = t500 && (t499 == t501)) = true := by simpa using c30))
      (try (have c30b2 : (t498 == t500 && (t499 == t501)) = true := by simpa using c30))
      clear c30
      (first | rw [c30b0] | (simp only [i64_w, i32_w]; rw [c30b0]) | skip)
      replace H := Option.bind_eq_some_iff.mp H
      obtain ⟨⟨t502, t503⟩, A310, H⟩ := H
      replace H : ((tnum_And.f t488 t489 t486 t487).bind fun bt504 => (if (t502 == bt504.1 && (t503 == bt504.2)) = true then ((tnum_Or.f t486 t487 t488 t489).bind fun bt506 => ((tnum_Or.f t488 t489 t486 t487).bind fun bt508 => (if (bt506.1 == bt508.1 && (bt506.2 == bt508.2)) = true then ((tnum_Xor.f t486 t487 t488 t489).bind fun bt510 => ((tnum_Xor.f t488 t489 t486 t487).bind fun bt512 => (if (bt510.1 == bt512.1 && (bt510.2 == bt512.2)) = true then ((tnum_Join.f t486 t487 t488 t489).bind fun bt514 => ((tnum_Join.f t488 t489 t486 t487).bind fun bt516 => (wardenlaw03_TnumSides.j0 k (bt514.1 == bt516.1 && (bt514.2 == bt516.2)) t486 t487 t488 t489 t492 t493 t494 t495))) else (wardenlaw03_TnumSides.j0 k false t486 t487 t488 t489 t492 t493 t494 t495)))) else (wardenlaw03_TnumSides.j0 k false t486 t487 t488 t489 t492 t493 t494 t495)))) else (wardenlaw03_TnumSides.j0 k false t486 t487 t488 t489 t492 t493 t494 t495))) = some r := H
      have A31 := Aside0.mk A310
      clear A310
      replace H := Option.bind_eq_some_iff.mp H
      obtain ⟨⟨t504, t505⟩, A320, H⟩ := H
      replace H : (if (t502 == t504 && (t503 == t505)) = true then ((tnum_Or.f t486 t487 t488 t489).bind fun bt506 => ((tnum_Or.f t488 t489 t486 t487).bind fun bt508 => (if (bt506.1 == bt508.1 && (bt506.2 == bt508.2)) = true then ((tnum_Xor.f t486 t487 t488 t489).bind fun bt510 => ((tnum_Xor.f t488 t489 t486 t487).bind fun bt512 => (if (bt510.1 == bt512.1 && (bt510.2 == bt512.2)) = true then ((tnum_Join.f t486 t487 t488 t489).bind fun bt514 => ((tnum_Join.f t488 t489 t486 t487).bind fun bt516 => (wardenlaw03_TnumSides.j0 k (bt514.1 == bt516.1 && (bt514.2 == bt516.2)) t486 t487 t488 t489 t492 t493 t494 t495))) else (wardenlaw03_TnumSides.j0 k false t486 t487 t488 t489 t492 t493 t494 t495)))) else (wardenlaw03_TnumSides.j0 k false t486 t487 t488 t489 t492 t493 t494 t495)))) else (wardenlaw03_TnumSides.j0 k false t486 t487 t488 t489 t492 t493 t494 t495)) = some r := H
      have A32 := Aside0.mk A320
      clear A320
      by_cases c33 : (t502 == t504 && (t503 == t505)) = true
      · rw [if_pos c33] at H
        have c33b0 : (t502 == t504 && (t503 == t505)) = true := c33
        (try (have c33b1 : decide (t502 = t504 && (t503 == t505)) = true := by simpa using c33))
        (try (have c33b2 : (t502 == t504 && (t503 == t505)) = true := by simpa using c33))
        clear c33
        replace H := Option.bind_eq_some_iff.mp H
        obtain ⟨⟨t506, t507⟩, A340, H⟩ := H
        replace H : ((tnum_Or.f t488 t489 t486 t487).bind fun bt508 => (if (t506 == bt508.1 && (t507 == bt508.2)) = true then ((tnum_Xor.f t486 t487 t488 t489).bind fun bt510 => ((tnum_Xor.f t488 t489 t486 t487).bind fun bt512 => (if (bt510.1 == bt512.1 && (bt510.2 == bt512.2)) = true then ((tnum_Join.f t486 t487 t488 t489).bind fun bt514 => ((tnum_Join.f t488 t489 t486 t487).bind fun bt516 => (wardenlaw03_TnumSides.j0 k (bt514.1 == bt516.1 && (bt514.2 == bt516.2)) t486 t487 t488 t489 t492 t493 t494 t495))) else (wardenlaw03_TnumSides.j0 k false t486 t487 t488 t489 t492 t493 t494 t495)))) else (wardenlaw03_TnumSides.j0 k false t486 t487 t488 t489 t492 t493 t494 t495))) = some r := H
        have A34 := Aside0.mk A340
        clear A340
        replace H := Option.bind_eq_some_iff.mp H
        obtain ⟨⟨t508, t509⟩, A350, H⟩ := H
        replace H : (if (t506 == t508 && (t507 == t509)) = true then ((tnum_Xor.f t486 t487 t488 t489).bind fun bt510 => ((tnum_Xor.f t488 t489 t486 t487).bind fun bt512 => (if (bt510.1 == bt512.1 && (bt510.2 == bt512.2)) = true then ((tnum_Join.f t486 t487 t488 t489).bind fun bt514 => ((tnum_Join.f t488 t489 t486 t487).bind fun bt516 => (wardenlaw03_TnumSides.j0 k (bt514.1 == bt516.1 && (bt514.2 == bt516.2)) t486 t487 t488 t489 t492 t493 t494 t495))) else (wardenlaw03_TnumSides.j0 k false t486 t487 t488 t489 t492 t493 t494 t495)))) else (wardenlaw03_TnumSides.j0 k false t486 t487 t488 t489 t492 t493 t494 t495)) = some r := H
        have A35 := Aside0.mk A350
        clear A350
        by_cases c36 : (t506 == t508 && (t507 == t509)) = true
        · rw [if_pos c36] at H
          have c36b0 : (t506 == t508 && (t507 == t509)) = true := c36
          (try (have c36b1 : decide (t506 = t508 && (t507 == t509)) = true := by simpa using c36))
          (try (have c36b2 : (t506 == t508 && (t507 == t509)) = true := by simpa using c36))
          clear c36
          replace H := Option.bind_eq_some_iff.mp H
          obtain ⟨⟨t510, t511⟩, A370, H⟩ := H
          replace H : ((tnum_Xor.f t488 t489 t486 t487).bind fun bt512 => (if (t510 == bt512.1 && (t511 == bt512.2)) = true then ((tnum_Join.f t486 t487 t488 t489).bind fun bt514 => ((tnum_Join.f t488 t489 t486 t487).bind fun bt516 => (wardenlaw03_TnumSides.j0 k (bt514.1 == bt516.1 && (bt514.2 == bt516.2)) t486 t487 t488 t489 t492 t493 t494 t495))) else (wardenlaw03_TnumSides.j0 k false t486 t487 t488 t489 t492 t493 t494 t495))) = some r := H
          have A37 := Aside0.mk A370
          clear A370
          replace H := Option.bind_eq_some_iff.mp H
          obtain ⟨⟨t512, t513⟩, A380, H⟩ := H
          replace H : (if (t510 == t512 && (t511 == t513)) = true then ((tnum_Join.f t486 t487 t488 t489).bind fun bt514 => ((tnum_Join.f t488 t489 t486 t487).bind fun bt516 => (wardenlaw03_TnumSides.j0 k (bt514.1 == bt516.1 && (bt514.2 == bt516.2)) t486 t487 t488 t489 t492 t493 t494 t495))) else (wardenlaw03_TnumSides.j0 k false t486 t487 t488 t489 t492 t493 t494 t495)) = some r := H
          have A38 := Aside0.mk A380
          clear A380
          by_cases c39 : (t510 == t512 && (t511 == t513)) = true
          · rw [if_pos c39] at H
            have c39b0 : (t510 == t512 && (t511 == t513)) = true := c39
            (try (have c39b1 : decide (t510 = t512 && (t511 == t513)) = true := by simpa using c39))
            (try (have c39b2 : (t510 == t512 && (t511 == t513)) = true := by simpa using c39))
            clear c39
            replace H := Option.bind_eq_some_iff.mp H
            obtain ⟨⟨t514, t515⟩, A400, H⟩ := H
            replace H : ((tnum_Join.f t488 t489 t486 t487).bind fun bt516 => (wardenlaw03_TnumSides.j0 k (t514 == bt516.1 && (t515 == bt516.2)) t486 t487 t488 t489 t492 t493 t494 t495)) = some r := H
            have A40 := Aside0.mk A400
            clear A400
            replace H := Option.bind_eq_some_iff.mp H
            obtain ⟨⟨t516, t517⟩, A410, H⟩ := H
            replace H : (wardenlaw03_TnumSides.j0 k (t514 == t516 && (t515 == t517)) t486 t487 t488 t489 t492 t493 t494 t495) = some r := H
            have A41 := Aside0.mk A410
            clear A410
            have H' := Aside0.mk H
            clear H
            try go_wp2
            have n0_ : Aside0 (((((w20.setCell ⟨gb496, 0, none⟩ (.int .u64 t492)).setCell ⟨gb496, 1, none⟩ (.int .u64 t493)).setCell ⟨gb497, 0, none⟩ (.int .u64 t494)).setCell ⟨gb497, 1, none⟩ (.int .u64 t495)).heap[gb490]? = some (.cells #[.int .u64 t486, .int .u64 t487] 24 (0, 0))) := ⟨by (with_reducible repeat (first | refine blk_drewN ?_ _ | refine blk_drew ?_ | refine blk_alloc ?_ _)); refine blk_far ?_ NB490_497.out _; (with_reducible repeat (first | refine blk_drewN ?_ _ | refine blk_drew ?_ | refine blk_alloc ?_ _)); refine blk_far ?_ NB490_497.out _; (with_reducible repeat (first | refine blk_drewN ?_ _ | refine blk_drew ?_ | refine blk_alloc ?_ _)); refine blk_far ?_ NB490_496.out _; (with_reducible repeat (first | refine blk_drewN ?_ _ | refine blk_drew ?_ | refine blk_alloc ?_ _)); refine blk_far ?_ NB490_496.out _; (with_reducible repeat (first | refine blk_drewN ?_ _ | refine blk_drew ?_ | refine blk_alloc ?_ _)); exact BK490.out⟩
            have n1_ : Aside0 (((((w20.setCell ⟨gb496, 0, none⟩ (.int .u64 t492)).setCell ⟨gb496, 1, none⟩ (.int .u64 t493)).setCell ⟨gb497, 0, none⟩ (.int .u64 t494)).setCell ⟨gb497, 1, none⟩ (.int .u64 t495)).heap[gb491]? = some (.cells #[.int .u64 t488, .int .u64 t489] 24 (0, 0))) := ⟨by (with_reducible repeat (first | refine blk_drewN ?_ _ | refine blk_drew ?_ | refine blk_alloc ?_ _)); refine blk_far ?_ NB491_497.out _; (with_reducible repeat (first | refine blk_drewN ?_ _ | refine blk_drew ?_ | refine blk_alloc ?_ _)); refine blk_far ?_ NB491_497.out _; (with_reducible repeat (first | refine blk_drewN ?_ _ | refine blk_drew ?_ | refine blk_alloc ?_ _)); refine blk_far ?_ NB491_496.out _; (with_reducible repeat (first | refine blk_drewN ?_ _ | refine blk_drew ?_ | refine blk_alloc ?_ _)); refine blk_far ?_ NB491_496.out _; (with_reducible repeat (first | refine blk_drewN ?_ _ | refine blk_drew ?_ | refine blk_alloc ?_ _)); exact BK491.out⟩
            have n2_ : Aside0 (((((w20.setCell ⟨gb496, 0, none⟩ (.int .u64 t492)).setCell ⟨gb496, 1, none⟩ (.int .u64 t493)).setCell ⟨gb497, 0, none⟩ (.int .u64 t494)).setCell ⟨gb497, 1, none⟩ (.int .u64 t495)).heap[gb496]? = some (.cells #[.int .u64 t492, .int .u64 t493] 24 (0, 0))) := ⟨by (with_reducible repeat (first | refine blk_drewN ?_ _ | refine blk_drew ?_ | refine blk_alloc ?_ _)); refine blk_far ?_ NB496_497.out _; (with_reducible repeat (first | refine blk_drewN ?_ _ | refine blk_drew ?_ | refine blk_alloc ?_ _)); refine blk_far ?_ NB496_497.out _; (with_reducible repeat (first | refine blk_drewN ?_ _ | refine blk_drew ?_ | refine blk_alloc ?_ _)); refine blk_put (cs := #[.int .u64 t492, .int .u64 0]) ?_ 1 _ rfl; (with_reducible repeat (first | refine blk_drewN ?_ _ | refine blk_drew ?_ | refine blk_alloc ?_ _)); refine blk_put (cs := #[.int .u64 0, .int .u64 0]) ?_ 0 _ rfl; (with_reducible repeat (first | refine blk_drewN ?_ _ | refine blk_drew ?_ | refine blk_alloc ?_ _)); exact BK496.out⟩
            have n3_ : Aside0 (((((w20.setCell ⟨gb496, 0, none⟩ (.int .u64 t492)).setCell ⟨gb496, 1, none⟩ (.int .u64 t493)).setCell ⟨gb497, 0, none⟩ (.int .u64 t494)).setCell ⟨gb497, 1, none⟩ (.int .u64 t495)).heap[gb497]? = some (.cells #[.int .u64 t494, .int .u64 t495] 24 (0, 0))) := ⟨by (with_reducible repeat (first | refine blk_drewN ?_ _ | refine blk_drew ?_ | refine blk_alloc ?_ _)); refine blk_put (cs := #[.int .u64 t494, .int .u64 0]) ?_ 1 _ rfl; (with_reducible repeat (first | refine blk_drewN ?_ _ | refine blk_drew ?_ | refine blk_alloc ?_ _)); refine blk_put (cs := #[.int .u64 0, .int .u64 0]) ?_ 0 _ rfl; (with_reducible repeat (first | refine blk_drewN ?_ _ | refine blk_drew ?_ | refine blk_alloc ?_ _)); refine blk_far ?_ NB497_496.out _; (with_reducible repeat (first | refine blk_drewN ?_ _ | refine blk_drew ?_ | refine blk_alloc ?_ _)); refine blk_far ?_ NB497_496.out _; (with_reducible repeat (first | refine blk_drewN ?_ _ | refine blk_drew ?_ | refine blk_alloc ?_ _)); exact BK497.out⟩
            have n4_ : Aside0 (Below w.heap.size w ((((w20.setCell ⟨gb496, 0, none⟩ (.int .u64 t492)).setCell ⟨gb496, 1, none⟩ (.int .u64 t493)).setCell ⟨gb497, 0, none⟩ (.int .u64 t494)).setCell ⟨gb497, 1, none⟩ (.int .u64 t495))) := ⟨by repeat (first | (with_reducible first | exact HB.out | apply below_alloc | apply pw_below_drewN | apply below_drew1 | refine below_set ?_ GE490.out | refine below_set ?_ GE491.out | refine below_set ?_ GE496.out | refine below_set ?_ GE497.out) | exact HB.out)⟩
            (try clear BK490)
            (try clear BK491)
            (try clear BK496)
            (try clear BK497)
            (try clear HB)
            generalize ((((w20.setCell ⟨gb496, 0, none⟩ (.int .u64 t492)).setCell ⟨gb496, 1, none⟩ (.int .u64 t493)).setCell ⟨gb497, 0, none⟩ (.int .u64 t494)).setCell ⟨gb497, 1, none⟩ (.int .u64 t495)) = w42 at n0_ n1_ n2_ n3_ n4_ ⊢
            have BK490 := n0_
            have BK491 := n1_
            have BK496 := n2_
            have BK497 := n3_
            have HB := n4_
            clear n0_ n1_ n2_ n3_ n4_
            have n0_ := Aside0.mk (blk_drew BK490.out)
            have n1_ := Aside0.mk (blk_drew BK491.out)
            have n2_ := Aside0.mk (blk_drew BK496.out)
            have n3_ := Aside0.mk (blk_drew BK497.out)
            have n4_ := Aside0.mk (below_drew1 HB.out)
            clear BK490
            clear BK491
            clear BK496
            clear BK497
            clear HB
            have BK490 := n0_
            have BK491 := n1_
            have BK496 := n2_
            have BK497 := n3_
            have HB := n4_
            clear n0_ n1_ n2_ n3_ n4_
            refine start_ (n := 44) (S := fun w' => w'.cell? ⟨gb490, 0, none⟩ = some (.int .u64 t486) ∧ w'.cell? ⟨gb490, 1, none⟩ = some (.int .u64 t487) ∧ w'.cell? ⟨gb491, 0, none⟩ = some (.int .u64 t488) ∧ w'.cell? ⟨gb491, 1, none⟩ = some (.int .u64 t489)) (ds := []) #[false, false, false, false, false, false, false, false, false, false, false, false, false, false, false, false, false, false, false, false, false, false, false, false, false, false, false, false, false, false, false, false, false, false, false, false, false, false, false, false, false, false, false, false] (by kernel_rfl) rfl rfl ⟨(blk_cell BK490.out 0).trans rfl, (blk_cell BK490.out 1).trans rfl, (blk_cell BK491.out 0).trans rfl, (blk_cell BK491.out 1).trans rfl⟩ (fun hHeld => ?_); refine with_tabW wardenlaw03_TnumSides.tab3 wardenlaw03_TnumSides.bits3 (fun HT_ HW_ => ?_)
            generalize w42.drew = w43 at BK490 BK491 BK496 BK497 HB hHeld ⊢
            refine take_ (i := 0) (N := some 29) (v := ?_) (a' := ?_) #[true, false, false, false, false, false, false, false, false, false, false, false, false, false, false, false, false, false, false, false, false, false, false, false, false, false, false, false, false, false, false, false, false, false, false, false, false, false, false, false, false, false, false, false] rfl rfl (take_ofW HT_.out HW_.out (by kernel_rfl)) (fun _ _ _ h => h) (Or.inl ⟨by rfl, ?_⟩) hHeld ?_ ?_
            rotate_left
            · rintro w' ⟨s0, s1, s2, s3⟩
              go_simp
              with_reducible rfl
            rotate_left
            · simp only [Act.put, List.setIfInBounds_toArray, List.set_cons_zero, List.set_cons_succ, i64_w, i32_w]
              rfl
            refine take_ (i := 1) (N := some 30) (v := ?_) (a' := ?_) #[true, true, false, false, false, false, false, false, false, false, false, false, false, false, false, false, false, false, false, false, false, false, false, false, false, false, false, false, false, false, false, false, false, false, false, false, false, false, false, false, false, false, false, false] rfl rfl (take_ofW HT_.out HW_.out (by kernel_rfl)) (fun _ _ _ h => h) (Or.inl ⟨by rfl, ?_⟩) hHeld ?_ ?_
            rotate_left
            · rintro w' ⟨s0, s1, s2, s3⟩
              go_simp
              with_reducible rfl
            rotate_left
            · simp only [Act.put, List.setIfInBounds_toArray, List.set_cons_zero, List.set_cons_succ, i64_w, i32_w]
              rfl
            refine take_ (i := 3) (N := some 32) (v := ?_) (a' := ?_) #[true, true, false, true, false, false, false, false, false, false, false, false, false, false, false, false, false, false, false, false, false, false, false, false, false, false, false, false, false, false, false, false, false, false, false, false, false, false, false, false, false, false, false, false] rfl rfl (take_ofW HT_.out HW_.out (by kernel_rfl)) (fun _ _ _ h => h) (Or.inl ⟨by rfl, ?_⟩) hHeld ?_ ?_
            rotate_left
            · rintro w' ⟨s0, s1, s2, s3⟩
              go_simp
              with_reducible rfl
            rotate_left
            · simp only [Act.put, List.setIfInBounds_toArray, List.set_cons_zero, List.set_cons_succ, i64_w, i32_w]
              rfl
            refine take_ (i := 4) (N := some 33) (v := ?_) (a' := ?_) #[true, true, false, true, true, false, false, false, false, false, false, false, false, false, false, false, false, false, false, false, false, false, false, false, false, false, false, false, false, false, false, false, false, false, false, false, false, false, false, false, false, false, false, false] rfl rfl (take_ofW HT_.out HW_.out (by kernel_rfl)) (fun _ _ _ h => h) (Or.inl ⟨by rfl, ?_⟩) hHeld ?_ ?_
            rotate_left
            · rintro w' ⟨s0, s1, s2, s3⟩
              go_simp
              with_reducible rfl
            rotate_left
            · simp only [Act.put, List.setIfInBounds_toArray, List.set_cons_zero, List.set_cons_succ, i64_w, i32_w]
              rfl
            refine one_ (i := 2) (N := some 31) #[true, true, true, true, true, false, false, false, false, false, false, false, false, false, false, false, false, false, false, false, false, false, false, false, false, false, false, false, false, false, false, false, false, false, false, false, false, false, false, false, false, false, false, false] rfl rfl (one_of HT_.out (by kernel_rfl)) (by decide) (fun K hK => ?_)
            refine goes_ Try.func29 (by kernel_rfl) rfl #[.agg #[.int .u64 t486, .int .u64 t487], .agg #[.int .u64 t488, .int .u64 t489]] (by rfl) rfl rfl (by (try simp only [List.map_toArray, List.map_cons, List.map_nil]); first | done | rfl | (simp only [List.length_drop, List.length_take]; rfl)) ?_
            with_reducible refine (tnum_Add.calls t486 t487 t488 t489 t498 t499 _ A28.out).mono ?_
            rintro e w44 ⟨rfl, hb⟩
            refine ⟨_, rfl, ?_⟩
            have n0_ := Aside0.mk (blk_below (g := gb490) (o := .cells #[.int .u64 t486, .int .u64 t487] 24 (0, 0)) (by (with_reducible repeat (first | refine blk_drewN ?_ _ | refine blk_drew ?_ | refine blk_alloc ?_ _)); exact BK490.out) hb)
            have n1_ := Aside0.mk (blk_below (g := gb491) (o := .cells #[.int .u64 t488, .int .u64 t489] 24 (0, 0)) (by (with_reducible repeat (first | refine blk_drewN ?_ _ | refine blk_drew ?_ | refine blk_alloc ?_ _)); exact BK491.out) hb)
            have n2_ := Aside0.mk (blk_below (g := gb496) (o := .cells #[.int .u64 t492, .int .u64 t493] 24 (0, 0)) (by (with_reducible repeat (first | refine blk_drewN ?_ _ | refine blk_drew ?_ | refine blk_alloc ?_ _)); exact BK496.out) hb)
            have n3_ := Aside0.mk (blk_below (g := gb497) (o := .cells #[.int .u64 t494, .int .u64 t495] 24 (0, 0)) (by (with_reducible repeat (first | refine blk_drewN ?_ _ | refine blk_drew ?_ | refine blk_alloc ?_ _)); exact BK497.out) hb)
            have n4_ := Aside0.mk (below_step (by repeat (first | (with_reducible first | exact HB.out | apply below_alloc | apply pw_below_drewN | apply below_drew1 | refine below_set ?_ GE490.out | refine below_set ?_ GE491.out | refine below_set ?_ GE496.out | refine below_set ?_ GE497.out) | exact HB.out)) hb)
            clear BK490
            clear BK491
            clear BK496
            clear BK497
            clear HB
            have BK490 := n0_
            have BK491 := n1_
            have BK496 := n2_
            have BK497 := n3_
            have HB := n4_
            clear n0_ n1_ n2_ n3_ n4_
            (try clear hb)
            (try clear hb2)
            (try clear hk)
            (try clear hi)
            refine hK.out _ _ ⟨(blk_cell BK490.out 0).trans rfl, (blk_cell BK490.out 1).trans rfl, (blk_cell BK491.out 0).trans rfl, (blk_cell BK491.out 1).trans rfl⟩ (fun hHeld => ?_)
            clear hK K
            refine norm_ (a' := ?_) ?_ ?_
            rotate_left
            · show Act.put _ (some 31) _ = _
              simp only [Act.put, List.setIfInBounds_toArray, List.set_cons_zero, List.set_cons_succ, i64_w, i32_w]
              rfl
            refine one_ (i := 5) (N := some 34) #[true, true, true, true, true, true, false, false, false, false, false, false, false, false, false, false, false, false, false, false, false, false, false, false, false, false, false, false, false, false, false, false, false, false, false, false, false, false, false, false, false, false, false, false] rfl rfl (one_of HT_.out (by kernel_rfl)) (by decide) (fun K hK => ?_)
            refine goes_ Try.func29 (by kernel_rfl) rfl #[.agg #[.int .u64 t488, .int .u64 t489], .agg #[.int .u64 t486, .int .u64 t487]] (by rfl) rfl rfl (by (try simp only [List.map_toArray, List.map_cons, List.map_nil]); first | done | rfl | (simp only [List.length_drop, List.length_take]; rfl)) ?_
            with_reducible refine (tnum_Add.calls t488 t489 t486 t487 t500 t501 _ A29.out).mono ?_
            rintro e w45 ⟨rfl, hb⟩
            refine ⟨_, rfl, ?_⟩
            have n0_ := Aside0.mk (blk_below (g := gb490) (o := .cells #[.int .u64 t486, .int .u64 t487] 24 (0, 0)) (by (with_reducible repeat (first | refine blk_drewN ?_ _ | refine blk_drew ?_ | refine blk_alloc ?_ _)); exact BK490.out) hb)
            have n1_ := Aside0.mk (blk_below (g := gb491) (o := .cells #[.int .u64 t488, .int .u64 t489] 24 (0, 0)) (by (with_reducible repeat (first | refine blk_drewN ?_ _ | refine blk_drew ?_ | refine blk_alloc ?_ _)); exact BK491.out) hb)
            have n2_ := Aside0.mk (blk_below (g := gb496) (o := .cells #[.int .u64 t492, .int .u64 t493] 24 (0, 0)) (by (with_reducible repeat (first | refine blk_drewN ?_ _ | refine blk_drew ?_ | refine blk_alloc ?_ _)); exact BK496.out) hb)
            have n3_ := Aside0.mk (blk_below (g := gb497) (o := .cells #[.int .u64 t494, .int .u64 t495] 24 (0, 0)) (by (with_reducible repeat (first | refine blk_drewN ?_ _ | refine blk_drew ?_ | refine blk_alloc ?_ _)); exact BK497.out) hb)
            have n4_ := Aside0.mk (below_step (by repeat (first | (with_reducible first | exact HB.out | apply below_alloc | apply pw_below_drewN | apply below_drew1 | refine below_set ?_ GE490.out | refine below_set ?_ GE491.out | refine below_set ?_ GE496.out | refine below_set ?_ GE497.out) | exact HB.out)) hb)
            clear BK490
            clear BK491
            clear BK496
            clear BK497
            clear HB
            have BK490 := n0_
            have BK491 := n1_
            have BK496 := n2_
            have BK497 := n3_
            have HB := n4_
            clear n0_ n1_ n2_ n3_ n4_
            (try clear hb)
            (try clear hb2)
            (try clear hk)
            (try clear hi)
            refine hK.out _ _ ⟨(blk_cell BK490.out 0).trans rfl, (blk_cell BK490.out 1).trans rfl, (blk_cell BK491.out 0).trans rfl, (blk_cell BK491.out 1).trans rfl⟩ (fun hHeld => ?_)
            clear hK K
            refine norm_ (a' := ?_) ?_ ?_
            rotate_left
            · show Act.put _ (some 34) _ = _
              simp only [Act.put, List.setIfInBounds_toArray, List.set_cons_zero, List.set_cons_succ, i64_w, i32_w]
              rfl
            refine pure_ (i := 6) (N := some 35) (v := ?_) (a' := ?_) #[true, true, true, true, true, true, true, false, false, false, false, false, false, false, false, false, false, false, false, false, false, false, false, false, false, false, false, false, false, false, false, false, false, false, false, false, false, false, false, false, false, false, false, false] rfl rfl (any_of HT_.out (by kernel_rfl)) (fun _ _ _ h => h) (Or.inl ⟨by rfl, ?_⟩) ?_ ?_
            rotate_left
            · intro w'
              go_simp
              with_reducible rfl
            rotate_left
            · simp only [Act.put, List.setIfInBounds_toArray, List.set_cons_zero, List.set_cons_succ, i64_w, i32_w]
              rfl
            refine pure_ (i := 7) (N := some 36) (v := ?_) (a' := ?_) #[true, true, true, true, true, true, true, true, false, false, false, false, false, false, false, false, false, false, false, false, false, false, false, false, false, false, false, false, false, false, false, false, false, false, false, false, false, false, false, false, false, false, false, false] rfl rfl (any_of HT_.out (by kernel_rfl)) (fun _ _ _ h => h) (Or.inl ⟨by rfl, ?_⟩) ?_ ?_
            rotate_left
            · intro w'
              go_simp
              with_reducible rfl
            rotate_left
            · simp only [Act.put, List.setIfInBounds_toArray, List.set_cons_zero, List.set_cons_succ, i64_w, i32_w]
              rfl
            refine take_ (i := 8) (N := some 37) (v := ?_) (a' := ?_) #[true, true, true, true, true, true, true, true, true, false, false, false, false, false, false, false, false, false, false, false, false, false, false, false, false, false, false, false, false, false, false, false, false, false, false, false, false, false, false, false, false, false, false, false] rfl rfl (take_ofW HT_.out HW_.out (by kernel_rfl)) (fun _ _ _ h => h) (Or.inl ⟨by rfl, ?_⟩) hHeld ?_ ?_
            rotate_left
            · rintro w' ⟨s0, s1, s2, s3⟩
              go_simp
              with_reducible rfl
            rotate_left
            · simp only [Act.put, List.setIfInBounds_toArray, List.set_cons_zero, List.set_cons_succ, i64_w, i32_w]
              rfl
            refine take_ (i := 9) (N := some 38) (v := ?_) (a' := ?_) #[true, true, true, true, true, true, true, true, true, true, false, false, false, false, false, false, false, false, false, false, false, false, false, false, false, false, false, false, false, false, false, false, false, false, false, false, false, false, false, false, false, false, false, false] rfl rfl (take_ofW HT_.out HW_.out (by kernel_rfl)) (fun _ _ _ h => h) (Or.inl ⟨by rfl, ?_⟩) hHeld ?_ ?_
            rotate_left
            · rintro w' ⟨s0, s1, s2, s3⟩
              go_simp
              with_reducible rfl
            rotate_left
            · simp only [Act.put, List.setIfInBounds_toArray, List.set_cons_zero, List.set_cons_succ, i64_w, i32_w]
              rfl
            refine take_ (i := 11) (N := some 40) (v := ?_) (a' := ?_) #[true, true, true, true, true, true, true, true, true, true, false, true, false, false, false, false, false, false, false, false, false, false, false, false, false, false, false, false, false, false, false, false, false, false, false, false, false, false, false, false, false, false, false, false] rfl rfl (take_ofW HT_.out HW_.out (by kernel_rfl)) (fun _ _ _ h => h) (Or.inl ⟨by rfl, ?_⟩) hHeld ?_ ?_
            rotate_left
            · rintro w' ⟨s0, s1, s2, s3⟩
              go_simp
              with_reducible rfl
            rotate_left
            · simp only [Act.put, List.setIfInBounds_toArray, List.set_cons_zero, List.set_cons_succ, i64_w, i32_w]
              rfl
            refine take_ (i := 12) (N := some 41) (v := ?_) (a' := ?_) #[true, true, true, true, true, true, true, true, true, true, false, true, true, false, false, false, false, false, false, false, false, false, false, false, false, false, false, false, false, false, false, false, false, false, false, false, false, false, false, false, false, false, false, false] rfl rfl (take_ofW HT_.out HW_.out (by kernel_rfl)) (fun _ _ _ h => h) (Or.inl ⟨by rfl, ?_⟩) hHeld ?_ ?_
            rotate_left
            · rintro w' ⟨s0, s1, s2, s3⟩
              go_simp
              with_reducible rfl
            rotate_left
            · simp only [Act.put, List.setIfInBounds_toArray, List.set_cons_zero, List.set_cons_succ, i64_w, i32_w]
              rfl
            refine one_ (i := 10) (N := some 39) #[true, true, true, true, true, true, true, true, true, true, true, true, true, false, false, false, false, false, false, false, false, false, false, false, false, false, false, false, false, false, false, false, false, false, false, false, false, false, false, false, false, false, false, false] rfl rfl (one_of HT_.out (by kernel_rfl)) (by decide) (fun K hK => ?_)
            refine goes_ Try.func27 (by kernel_rfl) rfl #[.agg #[.int .u64 t486, .int .u64 t487], .agg #[.int .u64 t488, .int .u64 t489]] (by rfl) rfl rfl (by (try simp only [List.map_toArray, List.map_cons, List.map_nil]); first | done | rfl | (simp only [List.length_drop, List.length_take]; rfl)) ?_
            with_reducible refine (tnum_And.calls t486 t487 t488 t489 t502 t503 _ A31.out).mono ?_
            rintro e w46 ⟨rfl, hb⟩
            refine ⟨_, rfl, ?_⟩
            have n0_ := Aside0.mk (blk_below (g := gb490) (o := .cells #[.int .u64 t486, .int .u64 t487] 24 (0, 0)) (by (with_reducible repeat (first | refine blk_drewN ?_ _ | refine blk_drew ?_ | refine blk_alloc ?_ _)); exact BK490.out) hb)
            have n1_ := Aside0.mk (blk_below (g := gb491) (o := .cells #[.int .u64 t488, .int .u64 t489] 24 (0, 0)) (by (with_reducible repeat (first | refine blk_drewN ?_ _ | refine blk_drew ?_ | refine blk_alloc ?_ _)); exact BK491.out) hb)
            have n2_ := Aside0.mk (blk_below (g := gb496) (o := .cells #[.int .u64 t492, .int .u64 t493] 24 (0, 0)) (by (with_reducible repeat (first | refine blk_drewN ?_ _ | refine blk_drew ?_ | refine blk_alloc ?_ _)); exact BK496.out) hb)
            have n3_ := Aside0.mk (blk_below (g := gb497) (o := .cells #[.int .u64 t494, .int .u64 t495] 24 (0, 0)) (by (with_reducible repeat (first | refine blk_drewN ?_ _ | refine blk_drew ?_ | refine blk_alloc ?_ _)); exact BK497.out) hb)
            have n4_ := Aside0.mk (below_step (by repeat (first | (with_reducible first | exact HB.out | apply below_alloc | apply pw_below_drewN | apply below_drew1 | refine below_set ?_ GE490.out | refine below_set ?_ GE491.out | refine below_set ?_ GE496.out | refine below_set ?_ GE497.out) | exact HB.out)) hb)
            clear BK490
            clear BK491
            clear BK496
            clear BK497
            clear HB
            have BK490 := n0_
            have BK491 := n1_
            have BK496 := n2_
            have BK497 := n3_
            have HB := n4_
            clear n0_ n1_ n2_ n3_ n4_
            (try clear hb)
            (try clear hb2)
            (try clear hk)
            (try clear hi)
            refine hK.out _ _ ⟨(blk_cell BK490.out 0).trans rfl, (blk_cell BK490.out 1).trans rfl, (blk_cell BK491.out 0).trans rfl, (blk_cell BK491.out 1).trans rfl⟩ (fun hHeld => ?_)
            clear hK K
            refine norm_ (a' := ?_) ?_ ?_
            rotate_left
            · show Act.put _ (some 39) _ = _
              simp only [Act.put, List.setIfInBounds_toArray, List.set_cons_zero, List.set_cons_succ, i64_w, i32_w]
              rfl
            refine one_ (i := 13) (N := some 42) #[true, true, true, true, true, true, true, true, true, true, true, true, true, true, false, false, false, false, false, false, false, false, false, false, false, false, false, false, false, false, false, false, false, false, false, false, false, false, false, false, false, false, false, false] rfl rfl (one_of HT_.out (by kernel_rfl)) (by decide) (fun K hK => ?_)
            refine goes_ Try.func27 (by kernel_rfl) rfl #[.agg #[.int .u64 t488, .int .u64 t489], .agg #[.int .u64 t486, .int .u64 t487]] (by rfl) rfl rfl (by (try simp only [List.map_toArray, List.map_cons, List.map_nil]); first | done | rfl | (simp only [List.length_drop, List.length_take]; rfl)) ?_
            with_reducible refine (tnum_And.calls t488 t489 t486 t487 t504 t505 _ A32.out).mono ?_
            rintro e w47 ⟨rfl, hb⟩
            refine ⟨_, rfl, ?_⟩
            have n0_ := Aside0.mk (blk_below (g := gb490) (o := .cells #[.int .u64 t486, .int .u64 t487] 24 (0, 0)) (by (with_reducible repeat (first | refine blk_drewN ?_ _ | refine blk_drew ?_ | refine blk_alloc ?_ _)); exact BK490.out) hb)
            have n1_ := Aside0.mk (blk_below (g := gb491) (o := .cells #[.int .u64 t488, .int .u64 t489] 24 (0, 0)) (by (with_reducible repeat (first | refine blk_drewN ?_ _ | refine blk_drew ?_ | refine blk_alloc ?_ _)); exact BK491.out) hb)
            have n2_ := Aside0.mk (blk_below (g := gb496) (o := .cells #[.int .u64 t492, .int .u64 t493] 24 (0, 0)) (by (with_reducible repeat (first | refine blk_drewN ?_ _ | refine blk_drew ?_ | refine blk_alloc ?_ _)); exact BK496.out) hb)
            have n3_ := Aside0.mk (blk_below (g := gb497) (o := .cells #[.int .u64 t494, .int .u64 t495] 24 (0, 0)) (by (with_reducible repeat (first | refine blk_drewN ?_ _ | refine blk_drew ?_ | refine blk_alloc ?_ _)); exact BK497.out) hb)
            have n4_ := Aside0.mk (below_step (by repeat (first | (with_reducible first | exact HB.out | apply below_alloc | apply pw_below_drewN | apply below_drew1 | refine below_set ?_ GE490.out | refine below_set ?_ GE491.out | refine below_set ?_ GE496.out | refine below_set ?_ GE497.out) | exact HB.out)) hb)
            clear BK490
            clear BK491
            clear BK496
            clear BK497
            clear HB
            have BK490 := n0_
            have BK491 := n1_
            have BK496 := n2_
            have BK497 := n3_
            have HB := n4_
            clear n0_ n1_ n2_ n3_ n4_
            (try clear hb)
            (try clear hb2)
            (try clear hk)
            (try clear hi)
            refine hK.out _ _ ⟨(blk_cell BK490.out 0).trans rfl, (blk_cell BK490.out 1).trans rfl, (blk_cell BK491.out 0).trans rfl, (blk_cell BK491.out 1).trans rfl⟩ (fun hHeld => ?_)
            clear hK K
            refine norm_ (a' := ?_) ?_ ?_
            rotate_left
            · show Act.put _ (some 42) _ = _
              simp only [Act.put, List.setIfInBounds_toArray, List.set_cons_zero, List.set_cons_succ, i64_w, i32_w]
              rfl
            refine pure_ (i := 14) (N := some 43) (v := ?_) (a' := ?_) #[true, true, true, true, true, true, true, true, true, true, true, true, true, true, true, false, false, false, false, false, false, false, false, false, false, false, false, false, false, false, false, false, false, false, false, false, false, false, false, false, false, false, false, false] rfl rfl (any_of HT_.out (by kernel_rfl)) (fun _ _ _ h => h) (Or.inl ⟨by rfl, ?_⟩) ?_ ?_
            rotate_left
            · intro w'
              go_simp
              with_reducible rfl
            rotate_left
            · simp only [Act.put, List.setIfInBounds_toArray, List.set_cons_zero, List.set_cons_succ, i64_w, i32_w]
              rfl
            refine pure_ (i := 15) (N := some 44) (v := ?_) (a' := ?_) #[true, true, true, true, true, true, true, true, true, true, true, true, true, true, true, true, false, false, false, false, false, false, false, false, false, false, false, false, false, false, false, false, false, false, false, false, false, false, false, false, false, false, false, false] rfl rfl (any_of HT_.out (by kernel_rfl)) (fun _ _ _ h => h) (Or.inl ⟨by rfl, ?_⟩) ?_ ?_
            rotate_left
            · intro w'
              go_simp
              with_reducible rfl
            rotate_left
            · simp only [Act.put, List.setIfInBounds_toArray, List.set_cons_zero, List.set_cons_succ, i64_w, i32_w]
              rfl
            refine pure_ (i := 16) (N := some 45) (v := ?_) (a' := ?_) #[true, true, true, true, true, true, true, true, true, true, true, true, true, true, true, true, true, false, false, false, false, false, false, false, false, false, false, false, false, false, false, false, false, false, false, false, false, false, false, false, false, false, false, false] rfl rfl (any_of HT_.out (by kernel_rfl)) (fun _ _ _ h => h) (Or.inl ⟨by rfl, ?_⟩) ?_ ?_
            rotate_left
            · intro w'
              go_simp
              with_reducible rfl
            rotate_left
            · simp only [Act.put, List.setIfInBounds_toArray, List.set_cons_zero, List.set_cons_succ, i64_w, i32_w]
              rfl
            refine take_ (i := 17) (N := some 46) (v := ?_) (a' := ?_) #[true, true, true, true, true, true, true, true, true, true, true, true, true, true, true, true, true, true, false, false, false, false, false, false, false, false, false, false, false, false, false, false, false, false, false, false, false, false, false, false, false, false, false, false] rfl rfl (take_ofW HT_.out HW_.out (by kernel_rfl)) (fun _ _ _ h => h) (Or.inl ⟨by rfl, ?_⟩) hHeld ?_ ?_
            rotate_left
            · rintro w' ⟨s0, s1, s2, s3⟩
              go_simp
              with_reducible rfl
            rotate_left
            · simp only [Act.put, List.setIfInBounds_toArray, List.set_cons_zero, List.set_cons_succ, i64_w, i32_w]
              rfl
            refine take_ (i := 18) (N := some 47) (v := ?_) (a' := ?_) #[true, true, true, true, true, true, true, true, true, true, true, true, true, true, true, true, true, true, true, false, false, false, false, false, false, false, false, false, false, false, false, false, false, false, false, false, false, false, false, false, false, false, false, false] rfl rfl (take_ofW HT_.out HW_.out (by kernel_rfl)) (fun _ _ _ h => h) (Or.inl ⟨by rfl, ?_⟩) hHeld ?_ ?_
            rotate_left
            · rintro w' ⟨s0, s1, s2, s3⟩
              go_simp
              with_reducible rfl
            rotate_left
            · simp only [Act.put, List.setIfInBounds_toArray, List.set_cons_zero, List.set_cons_succ, i64_w, i32_w]
              rfl
            refine take_ (i := 20) (N := some 49) (v := ?_) (a' := ?_) #[true, true, true, true, true, true, true, true, true, true, true, true, true, true, true, true, true, true, true, false, true, false, false, false, false, false, false, false, false, false, false, false, false, false, false, false, false, false, false, false, false, false, false, false] rfl rfl (take_ofW HT_.out HW_.out (by kernel_rfl)) (fun _ _ _ h => h) (Or.inl ⟨by rfl, ?_⟩) hHeld ?_ ?_
            rotate_left
            · rintro w' ⟨s0, s1, s2, s3⟩
              go_simp
              with_reducible rfl
            rotate_left
            · simp only [Act.put, List.setIfInBounds_toArray, List.set_cons_zero, List.set_cons_succ, i64_w, i32_w]
              rfl
            refine take_ (i := 21) (N := some 50) (v := ?_) (a' := ?_) #[true, true, true, true, true, true, true, true, true, true, true, true, true, true, true, true, true, true, true, false, true, true, false, false, false, false, false, false, false, false, false, false, false, false, false, false, false, false, false, false, false, false, false, false] rfl rfl (take_ofW HT_.out HW_.out (by kernel_rfl)) (fun _ _ _ h => h) (Or.inl ⟨by rfl, ?_⟩) hHeld ?_ ?_
            rotate_left
            · rintro w' ⟨s0, s1, s2, s3⟩
              go_simp
              with_reducible rfl
            rotate_left
            · simp only [Act.put, List.setIfInBounds_toArray, List.set_cons_zero, List.set_cons_succ, i64_w, i32_w]
              rfl
            refine one_ (i := 19) (N := some 48) #[true, true, true, true, true, true, true, true, true, true, true, true, true, true, true, true, true, true, true, true, true, true, false, false, false, false, false, false, false, false, false, false, false, false, false, false, false, false, false, false, false, false, false, false] rfl rfl (one_of HT_.out (by kernel_rfl)) (by decide) (fun K hK => ?_)
            refine goes_ Try.func35 (by kernel_rfl) rfl #[.agg #[.int .u64 t486, .int .u64 t487], .agg #[.int .u64 t488, .int .u64 t489]] (by rfl) rfl rfl (by (try simp only [List.map_toArray, List.map_cons, List.map_nil]); first | done | rfl | (simp only [List.length_drop, List.length_take]; rfl)) ?_
            with_reducible refine (tnum_Or.calls t486 t487 t488 t489 t506 t507 _ A34.out).mono ?_
            rintro e w48 ⟨rfl, hb⟩
            refine ⟨_, rfl, ?_⟩
            have n0_ := Aside0.mk (blk_below (g := gb490) (o := .cells #[.int .u64 t486, .int .u64 t487] 24 (0, 0)) (by (with_reducible repeat (first | refine blk_drewN ?_ _ | refine blk_drew ?_ | refine blk_alloc ?_ _)); exact BK490.out) hb)
            have n1_ := Aside0.mk (blk_below (g := gb491) (o := .cells #[.int .u64 t488, .int .u64 t489] 24 (0, 0)) (by (with_reducible repeat (first | refine blk_drewN ?_ _ | refine blk_drew ?_ | refine blk_alloc ?_ _)); exact BK491.out) hb)
            have n2_ := Aside0.mk (blk_below (g := gb496) (o := .cells #[.int .u64 t492, .int .u64 t493] 24 (0, 0)) (by (with_reducible repeat (first | refine blk_drewN ?_ _ | refine blk_drew ?_ | refine blk_alloc ?_ _)); exact BK496.out) hb)
            have n3_ := Aside0.mk (blk_below (g := gb497) (o := .cells #[.int .u64 t494, .int .u64 t495] 24 (0, 0)) (by (with_reducible repeat (first | refine blk_drewN ?_ _ | refine blk_drew ?_ | refine blk_alloc ?_ _)); exact BK497.out) hb)
            have n4_ := Aside0.mk (below_step (by repeat (first | (with_reducible first | exact HB.out | apply below_alloc | apply pw_below_drewN | apply below_drew1 | refine below_set ?_ GE490.out | refine below_set ?_ GE491.out | refine below_set ?_ GE496.out | refine below_set ?_ GE497.out) | exact HB.out)) hb)
            clear BK490
            clear BK491
            clear BK496
            clear BK497
            clear HB
            have BK490 := n0_
            have BK491 := n1_
            have BK496 := n2_
            have BK497 := n3_
            have HB := n4_
            clear n0_ n1_ n2_ n3_ n4_
            (try clear hb)
            (try clear hb2)
            (try clear hk)
            (try clear hi)
            refine hK.out _ _ ⟨(blk_cell BK490.out 0).trans rfl, (blk_cell BK490.out 1).trans rfl, (blk_cell BK491.out 0).trans rfl, (blk_cell BK491.out 1).trans rfl⟩ (fun hHeld => ?_)
            clear hK K
            refine norm_ (a' := ?_) ?_ ?_
            rotate_left
            · show Act.put _ (some 48) _ = _
              simp only [Act.put, List.setIfInBounds_toArray, List.set_cons_zero, List.set_cons_succ, i64_w, i32_w]
              rfl
            refine one_ (i := 22) (N := some 51) #[true, true, true, true, true, true, true, true, true, true, true, true, true, true, true, true, true, true, true, true, true, true, true, false, false, false, false, false, false, false, false, false, false, false, false, false, false, false, false, false, false, false, false, false] rfl rfl (one_of HT_.out (by kernel_rfl)) (by decide) (fun K hK => ?_)
            refine goes_ Try.func35 (by kernel_rfl) rfl #[.agg #[.int .u64 t488, .int .u64 t489], .agg #[.int .u64 t486, .int .u64 t487]] (by rfl) rfl rfl (by (try simp only [List.map_toArray, List.map_cons, List.map_nil]); first | done | rfl | (simp only [List.length_drop, List.length_take]; rfl)) ?_
            with_reducible refine (tnum_Or.calls t488 t489 t486 t487 t508 t509 _ A35.out).mono ?_
            rintro e w49 ⟨rfl, hb⟩
            refine ⟨_, rfl, ?_⟩
            have n0_ := Aside0.mk (blk_below (g := gb490) (o := .cells #[.int .u64 t486, .int .u64 t487] 24 (0, 0)) (by (with_reducible repeat (first | refine blk_drewN ?_ _ | refine blk_drew ?_ | refine blk_alloc ?_ _)); exact BK490.out) hb)
            have n1_ := Aside0.mk (blk_below (g := gb491) (o := .cells #[.int .u64 t488, .int .u64 t489] 24 (0, 0)) (by (with_reducible repeat (first | refine blk_drewN ?_ _ | refine blk_drew ?_ | refine blk_alloc ?_ _)); exact BK491.out) hb)
            have n2_ := Aside0.mk (blk_below (g := gb496) (o := .cells #[.int .u64 t492, .int .u64 t493] 24 (0, 0)) (by (with_reducible repeat (first | refine blk_drewN ?_ _ | refine blk_drew ?_ | refine blk_alloc ?_ _)); exact BK496.out) hb)
            have n3_ := Aside0.mk (blk_below (g := gb497) (o := .cells #[.int .u64 t494, .int .u64 t495] 24 (0, 0)) (by (with_reducible repeat (first | refine blk_drewN ?_ _ | refine blk_drew ?_ | refine blk_alloc ?_ _)); exact BK497.out) hb)
            have n4_ := Aside0.mk (below_step (by repeat (first | (with_reducible first | exact HB.out | apply below_alloc | apply pw_below_drewN | apply below_drew1 | refine below_set ?_ GE490.out | refine below_set ?_ GE491.out | refine below_set ?_ GE496.out | refine below_set ?_ GE497.out) | exact HB.out)) hb)
            clear BK490
            clear BK491
            clear BK496
            clear BK497
            clear HB
            have BK490 := n0_
            have BK491 := n1_
            have BK496 := n2_
            have BK497 := n3_
            have HB := n4_
            clear n0_ n1_ n2_ n3_ n4_
            (try clear hb)
            (try clear hb2)
            (try clear hk)
            (try clear hi)
            refine hK.out _ _ ⟨(blk_cell BK490.out 0).trans rfl, (blk_cell BK490.out 1).trans rfl, (blk_cell BK491.out 0).trans rfl, (blk_cell BK491.out 1).trans rfl⟩ (fun hHeld => ?_)
            clear hK K
            refine norm_ (a' := ?_) ?_ ?_
            rotate_left
            · show Act.put _ (some 51) _ = _
              simp only [Act.put, List.setIfInBounds_toArray, List.set_cons_zero, List.set_cons_succ, i64_w, i32_w]
              rfl
            refine pure_ (i := 23) (N := some 52) (v := ?_) (a' := ?_) #[true, true, true, true, true, true, true, true, true, true, true, true, true, true, true, true, true, true, true, true, true, true, true, true, false, false, false, false, false, false, false, false, false, false, false, false, false, false, false, false, false, false, false, false] rfl rfl (any_of HT_.out (by kernel_rfl)) (fun _ _ _ h => h) (Or.inl ⟨by rfl, ?_⟩) ?_ ?_
            rotate_left
            · intro w'
              go_simp
              with_reducible rfl
            rotate_left
            · simp only [Act.put, List.setIfInBounds_toArray, List.set_cons_zero, List.set_cons_succ, i64_w, i32_w]
              rfl
            refine pure_ (i := 24) (N := some 53) (v := ?_) (a' := ?_) #[true, true, true, true, true, true, true, true, true, true, true, true, true, true, true, true, true, true, true, true, true, true, true, true, true, false, false, false, false, false, false, false, false, false, false, false, false, false, false, false, false, false, false, false] rfl rfl (any_of HT_.out (by kernel_rfl)) (fun _ _ _ h => h) (Or.inl ⟨by rfl, ?_⟩) ?_ ?_
            rotate_left
            · intro w'
              go_simp
              with_reducible rfl
            rotate_left
            · simp only [Act.put, List.setIfInBounds_toArray, List.set_cons_zero, List.set_cons_succ, i64_w, i32_w]
              rfl
            refine pure_ (i := 25) (N := some 54) (v := ?_) (a' := ?_) #[true, true, true, true, true, true, true, true, true, true, true, true, true, true, true, true, true, true, true, true, true, true, true, true, true, true, false, false, false, false, false, false, false, false, false, false, false, false, false, false, false, false, false, false] rfl rfl (any_of HT_.out (by kernel_rfl)) (fun _ _ _ h => h) (Or.inl ⟨by rfl, ?_⟩) ?_ ?_
            rotate_left
            · intro w'
              go_simp
              with_reducible rfl
            rotate_left
            · simp only [Act.put, List.setIfInBounds_toArray, List.set_cons_zero, List.set_cons_succ, i64_w, i32_w]
              rfl
            refine take_ (i := 26) (N := some 55) (v := ?_) (a' := ?_) #[true, true, true, true, true, true, true, true, true, true, true, true, true, true, true, true, true, true, true, true, true, true, true, true, true, true, true, false, false, false, false, false, false, false, false, false, false, false, false, false, false, false, false, false] rfl rfl (take_ofW HT_.out HW_.out (by kernel_rfl)) (fun _ _ _ h => h) (Or.inl ⟨by rfl, ?_⟩) hHeld ?_ ?_
            rotate_left
            · rintro w' ⟨s0, s1, s2, s3⟩
              go_simp
              with_reducible rfl
            rotate_left
            · simp only [Act.put, List.setIfInBounds_toArray, List.set_cons_zero, List.set_cons_succ, i64_w, i32_w]
              rfl
            refine take_ (i := 27) (N := some 56) (v := ?_) (a' := ?_) #[true, true, true, true, true, true, true, true, true, true, true, true, true, true, true, true, true, true, true, true, true, true, true, true, true, true, true, true, false, false, false, false, false, false, false, false, false, false, false, false, false, false, false, false] rfl rfl (take_ofW HT_.out HW_.out (by kernel_rfl)) (fun _ _ _ h => h) (Or.inl ⟨by rfl, ?_⟩) hHeld ?_ ?_
            rotate_left
            · rintro w' ⟨s0, s1, s2, s3⟩
              go_simp
              with_reducible rfl
            rotate_left
            · simp only [Act.put, List.setIfInBounds_toArray, List.set_cons_zero, List.set_cons_succ, i64_w, i32_w]
              rfl
            refine take_ (i := 29) (N := some 58) (v := ?_) (a' := ?_) #[true, true, true, true, true, true, true, true, true, true, true, true, true, true, true, true, true, true, true, true, true, true, true, true, true, true, true, true, false, true, false, false, false, false, false, false, false, false, false, false, false, false, false, false] rfl rfl (take_ofW HT_.out HW_.out (by kernel_rfl)) (fun _ _ _ h => h) (Or.inl ⟨by rfl, ?_⟩) hHeld ?_ ?_
            rotate_left
            · rintro w' ⟨s0, s1, s2, s3⟩
              go_simp
              with_reducible rfl
            rotate_left
            · simp only [Act.put, List.setIfInBounds_toArray, List.set_cons_zero, List.set_cons_succ, i64_w, i32_w]
              rfl
            refine take_ (i := 30) (N := some 59) (v := ?_) (a' := ?_) #[true, true, true, true, true, true, true, true, true, true, true, true, true, true, true, true, true, true, true, true, true, true, true, true, true, true, true, true, false, true, true, false, false, false, false, false, false, false, false, false, false, false, false, false] rfl rfl (take_ofW HT_.out HW_.out (by kernel_rfl)) (fun _ _ _ h => h) (Or.inl ⟨by rfl, ?_⟩) hHeld ?_ ?_
            rotate_left
            · rintro w' ⟨s0, s1, s2, s3⟩
              go_simp
              with_reducible rfl
            rotate_left
            · simp only [Act.put, List.setIfInBounds_toArray, List.set_cons_zero, List.set_cons_succ, i64_w, i32_w]
              rfl
            refine one_ (i := 28) (N := some 57) #[true, true, true, true, true, true, true, true, true, true, true, true, true, true, true, true, true, true, true, true, true, true, true, true, true, true, true, true, true, true, true, false, false, false, false, false, false, false, false, false, false, false, false, false] rfl rfl (one_of HT_.out (by kernel_rfl)) (by decide) (fun K hK => ?_)
            refine goes_ Try.func36 (by kernel_rfl) rfl #[.agg #[.int .u64 t486, .int .u64 t487], .agg #[.int .u64 t488, .int .u64 t489]] (by rfl) rfl rfl (by (try simp only [List.map_toArray, List.map_cons, List.map_nil]); first | done | rfl | (simp only [List.length_drop, List.length_take]; rfl)) ?_
            with_reducible refine (tnum_Xor.calls t486 t487 t488 t489 t510 t511 _ A37.out).mono ?_
            rintro e w50 ⟨rfl, hb⟩
            refine ⟨_, rfl, ?_⟩
            have n0_ := Aside0.mk (blk_below (g := gb490) (o := .cells #[.int .u64 t486, .int .u64 t487] 24 (0, 0)) (by (with_reducible repeat (first | refine blk_drewN ?_ _ | refine blk_drew ?_ | refine blk_alloc ?_ _)); exact BK490.out) hb)
            have n1_ := Aside0.mk (blk_below (g := gb491) (o := .cells #[.int .u64 t488, .int .u64 t489] 24 (0, 0)) (by (with_reducible repeat (first | refine blk_drewN ?_ _ | refine blk_drew ?_ | refine blk_alloc ?_ _)); exact BK491.out) hb)
            have n2_ := Aside0.mk (blk_below (g := gb496) (o := .cells #[.int .u64 t492, .int .u64 t493] 24 (0, 0)) (by (with_reducible repeat (first | refine blk_drewN ?_ _ | refine blk_drew ?_ | refine blk_alloc ?_ _)); exact BK496.out) hb)
            have n3_ := Aside0.mk (blk_below (g := gb497) (o := .cells #[.int .u64 t494, .int .u64 t495] 24 (0, 0)) (by (with_reducible repeat (first | refine blk_drewN ?_ _ | refine blk_drew ?_ | refine blk_alloc ?_ _)); exact BK497.out) hb)
            have n4_ := Aside0.mk (below_step (by repeat (first | (with_reducible first | exact HB.out | apply below_alloc | apply pw_below_drewN | apply below_drew1 | refine below_set ?_ GE490.out | refine below_set ?_ GE491.out | refine below_set ?_ GE496.out | refine below_set ?_ GE497.out) | exact HB.out)) hb)
            clear BK490
            clear BK491
            clear BK496
            clear BK497
            clear HB
            have BK490 := n0_
            have BK491 := n1_
            have BK496 := n2_
            have BK497 := n3_
            have HB := n4_
            clear n0_ n1_ n2_ n3_ n4_
            (try clear hb)
            (try clear hb2)
            (try clear hk)
            (try clear hi)
            refine hK.out _ _ ⟨(blk_cell BK490.out 0).trans rfl, (blk_cell BK490.out 1).trans rfl, (blk_cell BK491.out 0).trans rfl, (blk_cell BK491.out 1).trans rfl⟩ (fun hHeld => ?_)
            clear hK K
            refine norm_ (a' := ?_) ?_ ?_
            rotate_left
            · show Act.put _ (some 57) _ = _
              simp only [Act.put, List.setIfInBounds_toArray, List.set_cons_zero, List.set_cons_succ, i64_w, i32_w]
              rfl
            refine one_ (i := 31) (N := some 60) #[true, true, true, true, true, true, true, true, true, true, true, true, true, true, true, true, true, true, true, true, true, true, true, true, true, true, true, true, true, true, true, true, false, false, false, false, false, false, false, false, false, false, false, false] rfl rfl (one_of HT_.out (by kernel_rfl)) (by decide) (fun K hK => ?_)
            refine goes_ Try.func36 (by kernel_rfl) rfl #[.agg #[.int .u64 t488, .int .u64 t489], .agg #[.int .u64 t486, .int .u64 t487]] (by rfl) rfl rfl (by (try simp only [List.map_toArray, List.map_cons, List.map_nil]); first | done | rfl | (simp only [List.length_drop, List.length_take]; rfl)) ?_
            with_reducible refine (tnum_Xor.calls t488 t489 t486 t487 t512 t513 _ A38.out).mono ?_
            rintro e w51 ⟨rfl, hb⟩
            refine ⟨_, rfl, ?_⟩
            have n0_ := Aside0.mk (blk_below (g := gb490) (o := .cells #[.int .u64 t486, .int .u64 t487] 24 (0, 0)) (by (with_reducible repeat (first | refine blk_drewN ?_ _ | refine blk_drew ?_ | refine blk_alloc ?_ _)); exact BK490.out) hb)
            have n1_ := Aside0.mk (blk_below (g := gb491) (o := .cells #[.int .u64 t488, .int .u64 t489] 24 (0, 0)) (by (with_reducible repeat (first | refine blk_drewN ?_ _ | refine blk_drew ?_ | refine blk_alloc ?_ _)); exact BK491.out) hb)
            have n2_ := Aside0.mk (blk_below (g := gb496) (o := .cells #[.int .u64 t492, .int .u64 t493] 24 (0, 0)) (by (with_reducible repeat (first | refine blk_drewN ?_ _ | refine blk_drew ?_ | refine blk_alloc ?_ _)); exact BK496.out) hb)
            have n3_ := Aside0.mk (blk_below (g := gb497) (o := .cells #[.int .u64 t494, .int .u64 t495] 24 (0, 0)) (by (with_reducible repeat (first | refine blk_drewN ?_ _ | refine blk_drew ?_ | refine blk_alloc ?_ _)); exact BK497.out) hb)
            have n4_ := Aside0.mk (below_step (by repeat (first | (with_reducible first | exact HB.out | apply below_alloc | apply pw_below_drewN | apply below_drew1 | refine below_set ?_ GE490.out | refine below_set ?_ GE491.out | refine below_set ?_ GE496.out | refine below_set ?_ GE497.out) | exact HB.out)) hb)
            clear BK490
            clear BK491
            clear BK496
            clear BK497
            clear HB
            have BK490 := n0_
            have BK491 := n1_
            have BK496 := n2_
            have BK497 := n3_
            have HB := n4_
            clear n0_ n1_ n2_ n3_ n4_
            (try clear hb)
            (try clear hb2)
            (try clear hk)
            (try clear hi)
            refine hK.out _ _ ⟨(blk_cell BK490.out 0).trans rfl, (blk_cell BK490.out 1).trans rfl, (blk_cell BK491.out 0).trans rfl, (blk_cell BK491.out 1).trans rfl⟩ (fun hHeld => ?_)
            clear hK K
            refine norm_ (a' := ?_) ?_ ?_
            rotate_left
            · show Act.put _ (some 60) _ = _
              simp only [Act.put, List.setIfInBounds_toArray, List.set_cons_zero, List.set_cons_succ, i64_w, i32_w]
              rfl
            refine pure_ (i := 32) (N := some 61) (v := ?_) (a' := ?_) #[true, true, true, true, true, true, true, true, true, true, true, true, true, true, true, true, true, true, true, true, true, true, true, true, true, true, true, true, true, true, true, true, true, false, false, false, false, false, false, false, false, false, false, false] rfl rfl (any_of HT_.out (by kernel_rfl)) (fun _ _ _ h => h) (Or.inl ⟨by rfl, ?_⟩) ?_ ?_
            rotate_left
            · intro w'
              go_simp
              with_reducible rfl
            rotate_left
            · simp only [Act.put, List.setIfInBounds_toArray, List.set_cons_zero, List.set_cons_succ, i64_w, i32_w]
              rfl
            refine pure_ (i := 33) (N := some 62) (v := ?_) (a' := ?_) #[true, true, true, true, true, true, true, true, true, true, true, true, true, true, true, true, true, true, true, true, true, true, true, true, true, true, true, true, true, true, true, true, true, true, false, false, false, false, false, false, false, false, false, false] rfl rfl (any_of HT_.out (by kernel_rfl)) (fun _ _ _ h => h) (Or.inl ⟨by rfl, ?_⟩) ?_ ?_
            rotate_left
            · intro w'
              go_simp
              with_reducible rfl
            rotate_left
            · simp only [Act.put, List.setIfInBounds_toArray, List.set_cons_zero, List.set_cons_succ, i64_w, i32_w]
              rfl
            refine pure_ (i := 34) (N := some 63) (v := ?_) (a' := ?_) #[true, true, true, true, true, true, true, true, true, true, true, true, true, true, true, true, true, true, true, true, true, true, true, true, true, true, true, true, true, true, true, true, true, true, true, false, false, false, false, false, false, false, false, false] rfl rfl (any_of HT_.out (by kernel_rfl)) (fun _ _ _ h => h) (Or.inl ⟨by rfl, ?_⟩) ?_ ?_
            rotate_left
            · intro w'
              go_simp
              with_reducible rfl
            rotate_left
            · simp only [Act.put, List.setIfInBounds_toArray, List.set_cons_zero, List.set_cons_succ, i64_w, i32_w]
              rfl
            refine take_ (i := 35) (N := some 64) (v := ?_) (a' := ?_) #[true, true, true, true, true, true, true, true, true, true, true, true, true, true, true, true, true, true, true, true, true, true, true, true, true, true, true, true, true, true, true, true, true, true, true, true, false, false, false, false, false, false, false, false] rfl rfl (take_ofW HT_.out HW_.out (by kernel_rfl)) (fun _ _ _ h => h) (Or.inl ⟨by rfl, ?_⟩) hHeld ?_ ?_
            rotate_left
            · rintro w' ⟨s0, s1, s2, s3⟩
              go_simp
              with_reducible rfl
            rotate_left
            · simp only [Act.put, List.setIfInBounds_toArray, List.set_cons_zero, List.set_cons_succ, i64_w, i32_w]
              rfl
            refine take_ (i := 36) (N := some 65) (v := ?_) (a' := ?_) #[true, true, true, true, true, true, true, true, true, true, true, true, true, true, true, true, true, true, true, true, true, true, true, true, true, true, true, true, true, true, true, true, true, true, true, true, true, false, false, false, false, false, false, false] rfl rfl (take_ofW HT_.out HW_.out (by kernel_rfl)) (fun _ _ _ h => h) (Or.inl ⟨by rfl, ?_⟩) hHeld ?_ ?_
            rotate_left
            · rintro w' ⟨s0, s1, s2, s3⟩
              go_simp
              with_reducible rfl
            rotate_left
            · simp only [Act.put, List.setIfInBounds_toArray, List.set_cons_zero, List.set_cons_succ, i64_w, i32_w]
              rfl
            refine take_ (i := 38) (N := some 67) (v := ?_) (a' := ?_) #[true, true, true, true, true, true, true, true, true, true, true, true, true, true, true, true, true, true, true, true, true, true, true, true, true, true, true, true, true, true, true, true, true, true, true, true, true, false, true, false, false, false, false, false] rfl rfl (take_ofW HT_.out HW_.out (by kernel_rfl)) (fun _ _ _ h => h) (Or.inl ⟨by rfl, ?_⟩) hHeld ?_ ?_
            rotate_left
            · rintro w' ⟨s0, s1, s2, s3⟩
              go_simp
              with_reducible rfl
            rotate_left
            · simp only [Act.put, List.setIfInBounds_toArray, List.set_cons_zero, List.set_cons_succ, i64_w, i32_w]
              rfl
            refine take_ (i := 39) (N := some 68) (v := ?_) (a' := ?_) #[true, true, true, true, true, true, true, true, true, true, true, true, true, true, true, true, true, true, true, true, true, true, true, true, true, true, true, true, true, true, true, true, true, true, true, true, true, false, true, true, false, false, false, false] rfl rfl (take_ofW HT_.out HW_.out (by kernel_rfl)) (fun _ _ _ h => h) (Or.inl ⟨by rfl, ?_⟩) hHeld ?_ ?_
            rotate_left
            · rintro w' ⟨s0, s1, s2, s3⟩
              go_simp
              with_reducible rfl
            rotate_left
            · simp only [Act.put, List.setIfInBounds_toArray, List.set_cons_zero, List.set_cons_succ, i64_w, i32_w]
              rfl
            refine one_ (i := 37) (N := some 66) #[true, true, true, true, true, true, true, true, true, true, true, true, true, true, true, true, true, true, true, true, true, true, true, true, true, true, true, true, true, true, true, true, true, true, true, true, true, true, true, true, false, false, false, false] rfl rfl (one_of HT_.out (by kernel_rfl)) (by decide) (fun K hK => ?_)
            refine goes_ Try.func20 (by kernel_rfl) rfl #[.agg #[.int .u64 t486, .int .u64 t487], .agg #[.int .u64 t488, .int .u64 t489]] (by rfl) rfl rfl (by (try simp only [List.map_toArray, List.map_cons, List.map_nil]); first | done | rfl | (simp only [List.length_drop, List.length_take]; rfl)) ?_
            with_reducible refine (tnum_Join.calls t486 t487 t488 t489 t514 t515 _ A40.out).mono ?_
            rintro e w52 ⟨rfl, hb⟩
            refine ⟨_, rfl, ?_⟩
            have n0_ := Aside0.mk (blk_below (g := gb490) (o := .cells #[.int .u64 t486, .int .u64 t487] 24 (0, 0)) (by (with_reducible repeat (first | refine blk_drewN ?_ _ | refine blk_drew ?_ | refine blk_alloc ?_ _)); exact BK490.out) hb)
            have n1_ := Aside0.mk (blk_below (g := gb491) (o := .cells #[.int .u64 t488, .int .u64 t489] 24 (0, 0)) (by (with_reducible repeat (first | refine blk_drewN ?_ _ | refine blk_drew ?_ | refine blk_alloc ?_ _)); exact BK491.out) hb)
            have n2_ := Aside0.mk (blk_below (g := gb496) (o := .cells #[.int .u64 t492, .int .u64 t493] 24 (0, 0)) (by (with_reducible repeat (first | refine blk_drewN ?_ _ | refine blk_drew ?_ | refine blk_alloc ?_ _)); exact BK496.out) hb)
            have n3_ := Aside0.mk (blk_below (g := gb497) (o := .cells #[.int .u64 t494, .int .u64 t495] 24 (0, 0)) (by (with_reducible repeat (first | refine blk_drewN ?_ _ | refine blk_drew ?_ | refine blk_alloc ?_ _)); exact BK497.out) hb)
            have n4_ := Aside0.mk (below_step (by repeat (first | (with_reducible first | exact HB.out | apply below_alloc | apply pw_below_drewN | apply below_drew1 | refine below_set ?_ GE490.out | refine below_set ?_ GE491.out | refine below_set ?_ GE496.out | refine below_set ?_ GE497.out) | exact HB.out)) hb)
            clear BK490
            clear BK491
            clear BK496
            clear BK497
            clear HB
            have BK490 := n0_
            have BK491 := n1_
            have BK496 := n2_
            have BK497 := n3_
            have HB := n4_
            clear n0_ n1_ n2_ n3_ n4_
            (try clear hb)
            (try clear hb2)
            (try clear hk)
            (try clear hi)
            refine hK.out _ _ ⟨(blk_cell BK490.out 0).trans rfl, (blk_cell BK490.out 1).trans rfl, (blk_cell BK491.out 0).trans rfl, (blk_cell BK491.out 1).trans rfl⟩ (fun hHeld => ?_)
            clear hK K
            refine norm_ (a' := ?_) ?_ ?_
            rotate_left
            · show Act.put _ (some 66) _ = _
              simp only [Act.put, List.setIfInBounds_toArray, List.set_cons_zero, List.set_cons_succ, i64_w, i32_w]
              rfl
            refine one_ (i := 40) (N := some 69) #[true, true, true, true, true, true, true, true, true, true, true, true, true, true, true, true, true, true, true, true, true, true, true, true, true, true, true, true, true, true, true, true, true, true, true, true, true, true, true, true, true, false, false, false] rfl rfl (one_of HT_.out (by kernel_rfl)) (by decide) (fun K hK => ?_)
            refine goes_ Try.func20 (by kernel_rfl) rfl #[.agg #[.int .u64 t488, .int .u64 t489], .agg #[.int .u64 t486, .int .u64 t487]] (by rfl) rfl rfl (by (try simp only [List.map_toArray, List.map_cons, List.map_nil]); first | done | rfl | (simp only [List.length_drop, List.length_take]; rfl)) ?_
            with_reducible refine (tnum_Join.calls t488 t489 t486 t487 t516 t517 _ A41.out).mono ?_
            rintro e w53 ⟨rfl, hb⟩
            refine ⟨_, rfl, ?_⟩
            have n0_ := Aside0.mk (blk_below (g := gb490) (o := .cells #[.int .u64 t486, .int .u64 t487] 24 (0, 0)) (by (with_reducible repeat (first | refine blk_drewN ?_ _ | refine blk_drew ?_ | refine blk_alloc ?_ _)); exact BK490.out) hb)
            have n1_ := Aside0.mk (blk_below (g := gb491) (o := .cells #[.int .u64 t488, .int .u64 t489] 24 (0, 0)) (by (with_reducible repeat (first | refine blk_drewN ?_ _ | refine blk_drew ?_ | refine blk_alloc ?_ _)); exact BK491.out) hb)
            have n2_ := Aside0.mk (blk_below (g := gb496) (o := .cells #[.int .u64 t492, .int .u64 t493] 24 (0, 0)) (by (with_reducible repeat (first | refine blk_drewN ?_ _ | refine blk_drew ?_ | refine blk_alloc ?_ _)); exact BK496.out) hb)
            have n3_ := Aside0.mk (blk_below (g := gb497) (o := .cells #[.int .u64 t494, .int .u64 t495] 24 (0, 0)) (by (with_reducible repeat (first | refine blk_drewN ?_ _ | refine blk_drew ?_ | refine blk_alloc ?_ _)); exact BK497.out) hb)
            have n4_ := Aside0.mk (below_step (by repeat (first | (with_reducible first | exact HB.out | apply below_alloc | apply pw_below_drewN | apply below_drew1 | refine below_set ?_ GE490.out | refine below_set ?_ GE491.out | refine below_set ?_ GE496.out | refine below_set ?_ GE497.out) | exact HB.out)) hb)
            clear BK490
            clear BK491
            clear BK496
            clear BK497
            clear HB
            have BK490 := n0_
            have BK491 := n1_
            have BK496 := n2_
            have BK497 := n3_
            have HB := n4_
            clear n0_ n1_ n2_ n3_ n4_
            (try clear hb)
            (try clear hb2)
            (try clear hk)
            (try clear hi)
            refine hK.out _ _ ⟨(blk_cell BK490.out 0).trans rfl, (blk_cell BK490.out 1).trans rfl, (blk_cell BK491.out 0).trans rfl, (blk_cell BK491.out 1).trans rfl⟩ (fun hHeld => ?_)
            clear hK K
            refine norm_ (a' := ?_) ?_ ?_
            rotate_left
            · show Act.put _ (some 69) _ = _
              simp only [Act.put, List.setIfInBounds_toArray, List.set_cons_zero, List.set_cons_succ, i64_w, i32_w]
              rfl
            refine pure_ (i := 41) (N := some 70) (v := ?_) (a' := ?_) #[true, true, true, true, true, true, true, true, true, true, true, true, true, true, true, true, true, true, true, true, true, true, true, true, true, true, true, true, true, true, true, true, true, true, true, true, true, true, true, true, true, true, false, false] rfl rfl (any_of HT_.out (by kernel_rfl)) (fun _ _ _ h => h) (Or.inl ⟨by rfl, ?_⟩) ?_ ?_
            rotate_left
            · intro w'
              go_simp
              with_reducible rfl
            rotate_left
            · simp only [Act.put, List.setIfInBounds_toArray, List.set_cons_zero, List.set_cons_succ, i64_w, i32_w]
              rfl
            refine pure_ (i := 42) (N := some 71) (v := ?_) (a' := ?_) #[true, true, true, true, true, true, true, true, true, true, true, true, true, true, true, true, true, true, true, true, true, true, true, true, true, true, true, true, true, true, true, true, true, true, true, true, true, true, true, true, true, true, true, false] rfl rfl (any_of HT_.out (by kernel_rfl)) (fun _ _ _ h => h) (Or.inl ⟨by rfl, ?_⟩) ?_ ?_
            rotate_left
            · intro w'
              go_simp
              with_reducible rfl
            rotate_left
            · simp only [Act.put, List.setIfInBounds_toArray, List.set_cons_zero, List.set_cons_succ, i64_w, i32_w]
              rfl
            refine pure_ (i := 43) (N := some 13) (v := ?_) (a' := ?_) #[true, true, true, true, true, true, true, true, true, true, true, true, true, true, true, true, true, true, true, true, true, true, true, true, true, true, true, true, true, true, true, true, true, true, true, true, true, true, true, true, true, true, true, true] rfl rfl (any_of HT_.out (by kernel_rfl)) (fun _ _ _ h => h) (Or.inl ⟨by rfl, ?_⟩) ?_ ?_
            rotate_left
            · intro w'
              go_simp
              with_reducible rfl
            rotate_left
            · simp only [Act.put, List.setIfInBounds_toArray, List.set_cons_zero, List.set_cons_succ, i64_w, i32_w]
              rfl
            refine done_ (done_of HT_.out (by kernel_rfl)) ?_
            try go_wp2
            go_meet
            case rel => exact ⟨_, ((t514 == t516 && (t515 == t517))), (by first | rfl | (simp; done) | (simp [*]; done)), H', ⟨by first | omega | exact Nat.le_refl _⟩, ⟨by (with_reducible repeat (first | refine blk_drewN ?_ _ | refine blk_drew ?_ | refine blk_alloc ?_ _)); exact BK490.out⟩, ⟨by (with_reducible repeat (first | refine blk_drewN ?_ _ | refine blk_drew ?_ | refine blk_alloc ?_ _)); exact BK491.out⟩, ⟨by (with_reducible repeat (first | refine blk_drewN ?_ _ | refine blk_drew ?_ | refine blk_alloc ?_ _)); exact BK496.out⟩, ⟨by (with_reducible repeat (first | refine blk_drewN ?_ _ | refine blk_drew ?_ | refine blk_alloc ?_ _)); exact BK497.out⟩, ⟨by repeat (first | (with_reducible first | exact HB.out | apply below_alloc | apply pw_below_drewN | apply below_drew1 | refine below_set ?_ GE490.out | refine below_set ?_ GE491.out | refine below_set ?_ GE496.out | refine below_set ?_ GE497.out) | exact HB.out)⟩⟩
          · rw [if_neg c39] at H
            have c39b0 : (t510 == t512 && (t511 == t513)) = false := by simpa using c39
            (try (have c39b1 : decide (t510 = t512 && (t511 == t513)) = false := by simpa using c39))
            (try (have c39b2 : (t510 == t512 && (t511 == t513)) = false := by simpa using c39))
            (try (have c39b3 : ¬ (t510 = t512 && (t511 == t513)) := by simpa using c39))
            clear c39
            exact absurd (H.trans (congrArg some hr_.out)) (wardenlaw03_TnumSides.j0_no1 _ _ _ _ _ _ _ _ _)
        · rw [if_neg c36] at H
          have c36b0 : (t506 == t508 && (t507 == t509)) = false := by simpa using c36
          (try (have c36b1 : decide (t506 = t508 && (t507 == t509)) = false := by simpa using c36))
          (try (have c36b2 : (t506 == t508 && (t507 == t509)) = false := by simpa using c36))
          (try (have c36b3 : ¬ (t506 = t508 && (t507 == t509)) := by simpa using c36))
          clear c36
          exact absurd (H.trans (congrArg some hr_.out)) (wardenlaw03_TnumSides.j0_no1 _ _ _ _ _ _ _ _ _)
      · rw [if_neg c33] at H
        have c33b0 : (t502 == t504 && (t503 == t505)) = false := by simpa using c33
        (try (have c33b1 : decide (t502 = t504 && (t503 == t505)) = false := by simpa using c33))
        (try (have c33b2 : (t502 == t504 && (t503 == t505)) = false := by simpa using c33))
        (try (have c33b3 : ¬ (t502 = t504 && (t503 == t505)) := by simpa using c33))
        clear c33
        exact absurd (H.trans (congrArg some hr_.out)) (wardenlaw03_TnumSides.j0_no1 _ _ _ _ _ _ _ _ _)
    · rw [if_neg c30] at H
      have c30b0 : (t498 == t500 && (t499 == t501)) = false := by simpa using c30
      (try (have c30b1 : decide (t498 = t500 && (t499 == t501)) = false := by simpa using c30))
      (try (have c30b2 : (t498 == t500 && (t499 == t501)) = false := by simpa using c30))
      (try (have c30b3 : ¬ (t498 = t500 && (t499 == t501)) := by simpa using c30))
      clear c30
      (first | rw [c30b0] | (simp only [i64_w, i32_w]; rw [c30b0]) | skip)
      exact absurd (H.trans (congrArg some hr_.out)) (wardenlaw03_TnumSides.j0_no1 _ _ _ _ _ _ _ _ _)
  case rest =>
    clear HC9
    try clear c2
    try clear p2
    try clear c3
    try clear c27
    try clear c29
    try clear c30
    try clear c30b0
    try clear c30b1
    try clear c30b2
    obtain ⟨kq, x13_8, rfl, HA, HJ8, BK490, BK491, BK496, BK497, HB⟩ := hcut
    cases kq with
    | zero => exact absurd HA.out (by simp [wardenlaw03_TnumSides.j0])
    | succ kj8 =>
      have H := HA.out
      clear HA
      simp only [wardenlaw03_TnumSides.j0] at H
      have HC82 := Aside0.mk H
      clear H
      go_upto_region 4 with (fail)
      go_cut [14] (fun v14 wc => ∃ (kq : Nat) (x14_81 : Bool), v14 = .bool x14_81 ∧ Aside0 (wardenlaw03_TnumSides.j1 kq x13_8 x14_81 t486 t487 t488 t489 = some r) ∧ Aside0 (kq ≤ kj8) ∧ Aside0 (wc.heap[gb490]? = some (.cells #[.int .u64 t486, .int .u64 t487] 24 (0, 0))) ∧ Aside0 (wc.heap[gb491]? = some (.cells #[.int .u64 t488, .int .u64 t489] 24 (0, 0))) ∧ Aside0 (wc.heap[gb496]? = some (.cells #[.int .u64 t492, .int .u64 t493] 24 (0, 0))) ∧ Aside0 (wc.heap[gb497]? = some (.cells #[.int .u64 t494, .int .u64 t495] 24 (0, 0))) ∧ Aside0 (Below w.heap.size w wc))
      case first =>
        have H := HC82.out
        clear HC82
        replace H := Option.bind_eq_some_iff.mp H
        obtain ⟨⟨t518, t519⟩, A830, H⟩ := H
        replace H : (if (t518 == t486 && (t519 == t487)) = true then ((tnum_Sub.f t486 t487 t492 t493).bind fun bt520 => (if (bt520.1 == t486 && (bt520.2 == t487)) = true then ((tnum_And.f t486 t487 t494 t495).bind fun bt522 => (if (bt522.1 == t486 && (bt522.2 == t487)) = true then ((tnum_Or.f t486 t487 t492 t493).bind fun bt524 => (if (bt524.1 == t486 && (bt524.2 == t487)) = true then ((tnum_Xor.f t486 t487 t492 t493).bind fun bt526 => (if (bt526.1 == t486 && (bt526.2 == t487)) = true then ((tnum_Join.f t486 t487 t486 t487).bind fun bt528 => (if (bt528.1 == t486 && (bt528.2 == t487)) = true then ((tnum_Mul.f kj8 t486 t487 t492 t493).bind fun bt530 => (if (bt530.1 == t492 && (bt530.2 == t493)) = true then ((tnum_Mul.f kj8 t492 t493 t486 t487).bind fun bt532 => (wardenlaw03_TnumSides.j1 kj8 x13_8 (bt532.1 == t492 && (bt532.2 == t493)) t486 t487 t488 t489)) else (wardenlaw03_TnumSides.j1 kj8 x13_8 false t486 t487 t488 t489))) else (wardenlaw03_TnumSides.j1 kj8 x13_8 false t486 t487 t488 t489))) else (wardenlaw03_TnumSides.j1 kj8 x13_8 false t486 t487 t488 t489))) else (wardenlaw03_TnumSides.j1 kj8 x13_8 false t486 t487 t488 t489))) else (wardenlaw03_TnumSides.j1 kj8 x13_8 false t486 t487 t488 t489))) else (wardenlaw03_TnumSides.j1 kj8 x13_8 false t486 t487 t488 t489))) else (wardenlaw03_TnumSides.j1 kj8 x13_8 false t486 t487 t488 t489)) = some r := H
        have A83 := Aside0.mk A830
        clear A830
        by_cases c84 : (t518 == t486 && (t519 == t487)) = true
        · rw [if_pos c84] at H
          have c84b0 : (t518 == t486 && (t519 == t487)) = true := c84
          (try (have c84b1 : decide (t518 = t486 && (t519 == t487)) = true := by simpa using c84))
          (try (have c84b2 : (t518 == t486 && (t519 == t487)) = true := by simpa using c84))
          clear c84
          (first | rw [c84b0] | (simp only [i64_w, i32_w]; rw [c84b0]) | skip)
          replace H := Option.bind_eq_some_iff.mp H
          obtain ⟨⟨t520, t521⟩, A850, H⟩ := H
          replace H : (if (t520 == t486 && (t521 == t487)) = true then ((tnum_And.f t486 t487 t494 t495).bind fun bt522 => (if (bt522.1 == t486 && (bt522.2 == t487)) = true then ((tnum_Or.f t486 t487 t492 t493).bind fun bt524 => (if (bt524.1 == t486 && (bt524.2 == t487)) = true then ((tnum_Xor.f t486 t487 t492 t493).bind fun bt526 => (if (bt526.1 == t486 && (bt526.2 == t487)) = true then ((tnum_Join.f t486 t487 t486 t487).bind fun bt528 => (if (bt528.1 == t486 && (bt528.2 == t487)) = true then ((tnum_Mul.f kj8 t486 t487 t492 t493).bind fun bt530 => (if (bt530.1 == t492 && (bt530.2 == t493)) = true then ((tnum_Mul.f kj8 t492 t493 t486 t487).bind fun bt532 => (wardenlaw03_TnumSides.j1 kj8 x13_8 (bt532.1 == t492 && (bt532.2 == t493)) t486 t487 t488 t489)) else (wardenlaw03_TnumSides.j1 kj8 x13_8 false t486 t487 t488 t489))) else (wardenlaw03_TnumSides.j1 kj8 x13_8 false t486 t487 t488 t489))) else (wardenlaw03_TnumSides.j1 kj8 x13_8 false t486 t487 t488 t489))) else (wardenlaw03_TnumSides.j1 kj8 x13_8 false t486 t487 t488 t489))) else (wardenlaw03_TnumSides.j1 kj8 x13_8 false t486 t487 t488 t489))) else (wardenlaw03_TnumSides.j1 kj8 x13_8 false t486 t487 t488 t489)) = some r := H
          have A85 := Aside0.mk A850
          clear A850
          by_cases c86 : (t520 == t486 && (t521 == t487)) = true
          · rw [if_pos c86] at H
            have c86b0 : (t520 == t486 && (t521 == t487)) = true := c86
            (try (have c86b1 : decide (t520 = t486 && (t521 == t487)) = true := by simpa using c86))
            (try (have c86b2 : (t520 == t486 && (t521 == t487)) = true := by simpa using c86))
            clear c86
            replace H := Option.bind_eq_some_iff.mp H
            obtain ⟨⟨t522, t523⟩, A870, H⟩ := H
            replace H : (if (t522 == t486 && (t523 == t487)) = true then ((tnum_Or.f t486 t487 t492 t493).bind fun bt524 => (if (bt524.1 == t486 && (bt524.2 == t487)) = true then ((tnum_Xor.f t486 t487 t492 t493).bind fun bt526 => (if (bt526.1 == t486 && (bt526.2 == t487)) = true then ((tnum_Join.f t486 t487 t486 t487).bind fun bt528 => (if (bt528.1 == t486 && (bt528.2 == t487)) = true then ((tnum_Mul.f kj8 t486 t487 t492 t493).bind fun bt530 => (if (bt530.1 == t492 && (bt530.2 == t493)) = true then ((tnum_Mul.f kj8 t492 t493 t486 t487).bind fun bt532 => (wardenlaw03_TnumSides.j1 kj8 x13_8 (bt532.1 == t492 && (bt532.2 == t493)) t486 t487 t488 t489)) else (wardenlaw03_TnumSides.j1 kj8 x13_8 false t486 t487 t488 t489))) else (wardenlaw03_TnumSides.j1 kj8 x13_8 false t486 t487 t488 t489))) else (wardenlaw03_TnumSides.j1 kj8 x13_8 false t486 t487 t488 t489))) else (wardenlaw03_TnumSides.j1 kj8 x13_8 false t486 t487 t488 t489))) else (wardenlaw03_TnumSides.j1 kj8 x13_8 false t486 t487 t488 t489)) = some r := H
            have A87 := Aside0.mk A870
            clear A870
            by_cases c88 : (t522 == t486 && (t523 == t487)) = true
            · rw [if_pos c88] at H
              have c88b0 : (t522 == t486 && (t523 == t487)) = true := c88
              (try (have c88b1 : decide (t522 = t486 && (t523 == t487)) = true := by simpa using c88))
              (try (have c88b2 : (t522 == t486 && (t523 == t487)) = true := by simpa using c88))
              clear c88
              replace H := Option.bind_eq_some_iff.mp H
              obtain ⟨⟨t524, t525⟩, A890, H⟩ := H
              replace H : (if (t524 == t486 && (t525 == t487)) = true then ((tnum_Xor.f t486 t487 t492 t493).bind fun bt526 => (if (bt526.1 == t486 && (bt526.2 == t487)) = true then ((tnum_Join.f t486 t487 t486 t487).bind fun bt528 => (if (bt528.1 == t486 && (bt528.2 == t487)) = true then ((tnum_Mul.f kj8 t486 t487 t492 t493).bind fun bt530 => (if (bt530.1 == t492 && (bt530.2 == t493)) = true then ((tnum_Mul.f kj8 t492 t493 t486 t487).bind fun bt532 => (wardenlaw03_TnumSides.j1 kj8 x13_8 (bt532.1 == t492 && (bt532.2 == t493)) t486 t487 t488 t489)) else (wardenlaw03_TnumSides.j1 kj8 x13_8 false t486 t487 t488 t489))) else (wardenlaw03_TnumSides.j1 kj8 x13_8 false t486 t487 t488 t489))) else (wardenlaw03_TnumSides.j1 kj8 x13_8 false t486 t487 t488 t489))) else (wardenlaw03_TnumSides.j1 kj8 x13_8 false t486 t487 t488 t489)) = some r := H
              have A89 := Aside0.mk A890
              clear A890
              by_cases c90 : (t524 == t486 && (t525 == t487)) = true
              · rw [if_pos c90] at H
                have c90b0 : (t524 == t486 && (t525 == t487)) = true := c90
                (try (have c90b1 : decide (t524 = t486 && (t525 == t487)) = true := by simpa using c90))
                (try (have c90b2 : (t524 == t486 && (t525 == t487)) = true := by simpa using c90))
                clear c90
                replace H := Option.bind_eq_some_iff.mp H
                obtain ⟨⟨t526, t527⟩, A910, H⟩ := H
                replace H : (if (t526 == t486 && (t527 == t487)) = true then ((tnum_Join.f t486 t487 t486 t487).bind fun bt528 => (if (bt528.1 == t486 && (bt528.2 == t487)) = true then ((tnum_Mul.f kj8 t486 t487 t492 t493).bind fun bt530 => (if (bt530.1 == t492 && (bt530.2 == t493)) = true then ((tnum_Mul.f kj8 t492 t493 t486 t487).bind fun bt532 => (wardenlaw03_TnumSides.j1 kj8 x13_8 (bt532.1 == t492 && (bt532.2 == t493)) t486 t487 t488 t489)) else (wardenlaw03_TnumSides.j1 kj8 x13_8 false t486 t487 t488 t489))) else (wardenlaw03_TnumSides.j1 kj8 x13_8 false t486 t487 t488 t489))) else (wardenlaw03_TnumSides.j1 kj8 x13_8 false t486 t487 t488 t489)) = some r := H
                have A91 := Aside0.mk A910
                clear A910
                by_cases c92 : (t526 == t486 && (t527 == t487)) = true
                · rw [if_pos c92] at H
                  have c92b0 : (t526 == t486 && (t527 == t487)) = true := c92
                  (try (have c92b1 : decide (t526 = t486 && (t527 == t487)) = true := by simpa using c92))
                  (try (have c92b2 : (t526 == t486 && (t527 == t487)) = true := by simpa using c92))
                  clear c92
                  replace H := Option.bind_eq_some_iff.mp H
                  obtain ⟨⟨t528, t529⟩, A930, H⟩ := H
                  replace H : (if (t528 == t486 && (t529 == t487)) = true then ((tnum_Mul.f kj8 t486 t487 t492 t493).bind fun bt530 => (if (bt530.1 == t492 && (bt530.2 == t493)) = true then ((tnum_Mul.f kj8 t492 t493 t486 t487).bind fun bt532 => (wardenlaw03_TnumSides.j1 kj8 x13_8 (bt532.1 == t492 && (bt532.2 == t493)) t486 t487 t488 t489)) else (wardenlaw03_TnumSides.j1 kj8 x13_8 false t486 t487 t488 t489))) else (wardenlaw03_TnumSides.j1 kj8 x13_8 false t486 t487 t488 t489)) = some r := H
                  have A93 := Aside0.mk A930
                  clear A930
                  by_cases c94 : (t528 == t486 && (t529 == t487)) = true
                  · rw [if_pos c94] at H
                    have c94b0 : (t528 == t486 && (t529 == t487)) = true := c94
                    (try (have c94b1 : decide (t528 = t486 && (t529 == t487)) = true := by simpa using c94))
                    (try (have c94b2 : (t528 == t486 && (t529 == t487)) = true := by simpa using c94))
                    clear c94
                    replace H := Option.bind_eq_some_iff.mp H
                    obtain ⟨⟨t530, t531⟩, A950, H⟩ := H
                    replace H : (if (t530 == t492 && (t531 == t493)) = true then ((tnum_Mul.f kj8 t492 t493 t486 t487).bind fun bt532 => (wardenlaw03_TnumSides.j1 kj8 x13_8 (bt532.1 == t492 && (bt532.2 == t493)) t486 t487 t488 t489)) else (wardenlaw03_TnumSides.j1 kj8 x13_8 false t486 t487 t488 t489)) = some r := H
                    have A95 := Aside0.mk A950
                    clear A950
                    by_cases c96 : (t530 == t492 && (t531 == t493)) = true
                    · rw [if_pos c96] at H
                      have c96b0 : (t530 == t492 && (t531 == t493)) = true := c96
                      (try (have c96b1 : decide (t530 = t492 && (t531 == t493)) = true := by simpa using c96))
                      (try (have c96b2 : (t530 == t492 && (t531 == t493)) = true := by simpa using c96))
                      clear c96
                      replace H := Option.bind_eq_some_iff.mp H
                      obtain ⟨⟨t532, t533⟩, A970, H⟩ := H
                      replace H : (wardenlaw03_TnumSides.j1 kj8 x13_8 (t532 == t492 && (t533 == t493)) t486 t487 t488 t489) = some r := H
                      have A97 := Aside0.mk A970
                      clear A970
                      have H' := Aside0.mk H
                      clear H
                      try go_wp2
                      have n0_ := Aside0.mk (blk_drew BK490.out)
                      have n1_ := Aside0.mk (blk_drew BK491.out)
                      have n2_ := Aside0.mk (blk_drew BK496.out)
                      have n3_ := Aside0.mk (blk_drew BK497.out)
                      have n4_ := Aside0.mk (below_drew1 HB.out)
                      clear BK490
                      clear BK491
                      clear BK496
                      clear BK497
                      clear HB
                      have BK490 := n0_
                      have BK491 := n1_
                      have BK496 := n2_
                      have BK497 := n3_
                      have HB := n4_
                      clear n0_ n1_ n2_ n3_ n4_
                      refine start_ (n := 55) (S := fun w' => w'.cell? ⟨gb490, 0, none⟩ = some (.int .u64 t486) ∧ w'.cell? ⟨gb490, 1, none⟩ = some (.int .u64 t487) ∧ w'.cell? ⟨gb496, 0, none⟩ = some (.int .u64 t492) ∧ w'.cell? ⟨gb496, 1, none⟩ = some (.int .u64 t493) ∧ w'.cell? ⟨gb497, 0, none⟩ = some (.int .u64 t494) ∧ w'.cell? ⟨gb497, 1, none⟩ = some (.int .u64 t495)) (ds := []) #[false, false, false, false, false, false, false, false, false, false, false, false, false, false, false, false, false, false, false, false, false, false, false, false, false, false, false, false, false, false, false, false, false, false, false, false, false, false, false, false, false, false, false, false, false, false, false, false, false, false, false, false, false, false, false] (by kernel_rfl) rfl rfl ⟨(blk_cell BK490.out 0).trans rfl, (blk_cell BK490.out 1).trans rfl, (blk_cell BK496.out 0).trans rfl, (blk_cell BK496.out 1).trans rfl, (blk_cell BK497.out 0).trans rfl, (blk_cell BK497.out 1).trans rfl⟩ (fun hHeld => ?_); refine with_tabW wardenlaw03_TnumSides.tab4 wardenlaw03_TnumSides.bits4 (fun HT_ HW_ => ?_)
                      generalize wc.drew = w98 at BK490 BK491 BK496 BK497 HB hHeld ⊢
                      refine take_ (i := 0) (N := some 72) (v := ?_) (a' := ?_) #[true, false, false, false, false, false, false, false, false, false, false, false, false, false, false, false, false, false, false, false, false, false, false, false, false, false, false, false, false, false, false, false, false, false, false, false, false, false, false, false, false, false, false, false, false, false, false, false, false, false, false, false, false, false, false] rfl rfl (take_ofW HT_.out HW_.out (by kernel_rfl)) (fun _ _ _ h => h) (Or.inl ⟨by rfl, ?_⟩) hHeld ?_ ?_
                      rotate_left
                      · rintro w' ⟨s0, s1, s2, s3, s4, s5⟩
                        go_simp
                        with_reducible rfl
                      rotate_left
                      · simp only [Act.put, List.setIfInBounds_toArray, List.set_cons_zero, List.set_cons_succ, i64_w, i32_w]
                        rfl
                      refine take_ (i := 1) (N := some 73) (v := ?_) (a' := ?_) #[true, true, false, false, false, false, false, false, false, false, false, false, false, false, false, false, false, false, false, false, false, false, false, false, false, false, false, false, false, false, false, false, false, false, false, false, false, false, false, false, false, false, false, false, false, false, false, false, false, false, false, false, false, false, false] rfl rfl (take_ofW HT_.out HW_.out (by kernel_rfl)) (fun _ _ _ h => h) (Or.inl ⟨by rfl, ?_⟩) hHeld ?_ ?_
                      rotate_left
                      · rintro w' ⟨s0, s1, s2, s3, s4, s5⟩
                        go_simp
                        with_reducible rfl
                      rotate_left
                      · simp only [Act.put, List.setIfInBounds_toArray, List.set_cons_zero, List.set_cons_succ, i64_w, i32_w]
                        rfl
                      refine take_ (i := 3) (N := some 75) (v := ?_) (a' := ?_) #[true, true, false, true, false, false, false, false, false, false, false, false, false, false, false, false, false, false, false, false, false, false, false, false, false, false, false, false, false, false, false, false, false, false, false, false, false, false, false, false, false, false, false, false, false, false, false, false, false, false, false, false, false, false, false] rfl rfl (take_ofW HT_.out HW_.out (by kernel_rfl)) (fun _ _ _ h => h) (Or.inl ⟨by rfl, ?_⟩) hHeld ?_ ?_
                      rotate_left
                      · rintro w' ⟨s0, s1, s2, s3, s4, s5⟩
                        go_simp
                        with_reducible rfl
                      rotate_left
                      · simp only [Act.put, List.setIfInBounds_toArray, List.set_cons_zero, List.set_cons_succ, i64_w, i32_w]
                        rfl
                      refine one_ (i := 2) (N := some 74) #[true, true, true, true, false, false, false, false, false, false, false, false, false, false, false, false, false, false, false, false, false, false, false, false, false, false, false, false, false, false, false, false, false, false, false, false, false, false, false, false, false, false, false, false, false, false, false, false, false, false, false, false, false, false, false] rfl rfl (one_of HT_.out (by kernel_rfl)) (by decide) (fun K hK => ?_)
                      refine goes_ Try.func29 (by kernel_rfl) rfl #[.agg #[.int .u64 t486, .int .u64 t487], .agg #[.int .u64 t492, .int .u64 t493]] (by rfl) rfl rfl (by (try simp only [List.map_toArray, List.map_cons, List.map_nil]); first | done | rfl | (simp only [List.length_drop, List.length_take]; rfl)) ?_
                      with_reducible refine (tnum_Add.calls t486 t487 t492 t493 t518 t519 _ A83.out).mono ?_
                      rintro e w99 ⟨rfl, hb⟩
                      refine ⟨_, rfl, ?_⟩
                      have n0_ := Aside0.mk (blk_below (g := gb490) (o := .cells #[.int .u64 t486, .int .u64 t487] 24 (0, 0)) (by (with_reducible repeat (first | refine blk_drewN ?_ _ | refine blk_drew ?_ | refine blk_alloc ?_ _)); exact BK490.out) hb)
                      have n1_ := Aside0.mk (blk_below (g := gb491) (o := .cells #[.int .u64 t488, .int .u64 t489] 24 (0, 0)) (by (with_reducible repeat (first | refine blk_drewN ?_ _ | refine blk_drew ?_ | refine blk_alloc ?_ _)); exact BK491.out) hb)
                      have n2_ := Aside0.mk (blk_below (g := gb496) (o := .cells #[.int .u64 t492, .int .u64 t493] 24 (0, 0)) (by (with_reducible repeat (first | refine blk_drewN ?_ _ | refine blk_drew ?_ | refine blk_alloc ?_ _)); exact BK496.out) hb)
                      have n3_ := Aside0.mk (blk_below (g := gb497) (o := .cells #[.int .u64 t494, .int .u64 t495] 24 (0, 0)) (by (with_reducible repeat (first | refine blk_drewN ?_ _ | refine blk_drew ?_ | refine blk_alloc ?_ _)); exact BK497.out) hb)
                      have n4_ := Aside0.mk (below_step (by repeat (first | (with_reducible first | exact HB.out | apply below_alloc | apply pw_below_drewN | apply below_drew1 | refine below_set ?_ GE490.out | refine below_set ?_ GE491.out | refine below_set ?_ GE496.out | refine below_set ?_ GE497.out) | exact HB.out)) hb)
                      clear BK490
                      clear BK491
                      clear BK496
                      clear BK497
                      clear HB
                      have BK490 := n0_
                      have BK491 := n1_
                      have BK496 := n2_
                      have BK497 := n3_
                      have HB := n4_
                      clear n0_ n1_ n2_ n3_ n4_
                      (try clear hb)
                      (try clear hb2)
                      (try clear hk)
                      (try clear hi)
                      refine hK.out _ _ ⟨(blk_cell BK490.out 0).trans rfl, (blk_cell BK490.out 1).trans rfl, (blk_cell BK496.out 0).trans rfl, (blk_cell BK496.out 1).trans rfl, (blk_cell BK497.out 0).trans rfl, (blk_cell BK497.out 1).trans rfl⟩ (fun hHeld => ?_)
                      clear hK K
                      refine norm_ (a' := ?_) ?_ ?_
                      rotate_left
                      · show Act.put _ (some 74) _ = _
                        simp only [Act.put, List.setIfInBounds_toArray, List.set_cons_zero, List.set_cons_succ, i64_w, i32_w]
                        rfl
                      refine pure_ (i := 4) (N := some 76) (v := ?_) (a' := ?_) #[true, true, true, true, true, false, false, false, false, false, false, false, false, false, false, false, false, false, false, false, false, false, false, false, false, false, false, false, false, false, false, false, false, false, false, false, false, false, false, false, false, false, false, false, false, false, false, false, false, false, false, false, false, false, false] rfl rfl (any_of HT_.out (by kernel_rfl)) (fun _ _ _ h => h) (Or.inl ⟨by rfl, ?_⟩) ?_ ?_
                      rotate_left
                      · intro w'
                        go_simp
                        with_reducible rfl
                      rotate_left
                      · simp only [Act.put, List.setIfInBounds_toArray, List.set_cons_zero, List.set_cons_succ, i64_w, i32_w]
                        rfl
                      refine pure_ (i := 5) (N := some 77) (v := ?_) (a' := ?_) #[true, true, true, true, true, true, false, false, false, false, false, false, false, false, false, false, false, false, false, false, false, false, false, false, false, false, false, false, false, false, false, false, false, false, false, false, false, false, false, false, false, false, false, false, false, false, false, false, false, false, false, false, false, false, false] rfl rfl (any_of HT_.out (by kernel_rfl)) (fun _ _ _ h => h) (Or.inl ⟨by rfl, ?_⟩) ?_ ?_
                      rotate_left
                      · intro w'
                        go_simp
                        with_reducible rfl
                      rotate_left
                      · simp only [Act.put, List.setIfInBounds_toArray, List.set_cons_zero, List.set_cons_succ, i64_w, i32_w]
                        rfl
                      refine take_ (i := 6) (N := some 78) (v := ?_) (a' := ?_) #[true, true, true, true, true, true, true, false, false, false, false, false, false, false, false, false, false, false, false, false, false, false, false, false, false, false, false, false, false, false, false, false, false, false, false, false, false, false, false, false, false, false, false, false, false, false, false, false, false, false, false, false, false, false, false] rfl rfl (take_ofW HT_.out HW_.out (by kernel_rfl)) (fun _ _ _ h => h) (Or.inl ⟨by rfl, ?_⟩) hHeld ?_ ?_
                      rotate_left
                      · rintro w' ⟨s0, s1, s2, s3, s4, s5⟩
                        go_simp
                        with_reducible rfl
                      rotate_left
                      · simp only [Act.put, List.setIfInBounds_toArray, List.set_cons_zero, List.set_cons_succ, i64_w, i32_w]
                        rfl
                      refine take_ (i := 7) (N := some 79) (v := ?_) (a' := ?_) #[true, true, true, true, true, true, true, true, false, false, false, false, false, false, false, false, false, false, false, false, false, false, false, false, false, false, false, false, false, false, false, false, false, false, false, false, false, false, false, false, false, false, false, false, false, false, false, false, false, false, false, false, false, false, false] rfl rfl (take_ofW HT_.out HW_.out (by kernel_rfl)) (fun _ _ _ h => h) (Or.inl ⟨by rfl, ?_⟩) hHeld ?_ ?_
                      rotate_left
                      · rintro w' ⟨s0, s1, s2, s3, s4, s5⟩
                        go_simp
                        with_reducible rfl
                      rotate_left
                      · simp only [Act.put, List.setIfInBounds_toArray, List.set_cons_zero, List.set_cons_succ, i64_w, i32_w]
                        rfl
                      refine take_ (i := 9) (N := some 81) (v := ?_) (a' := ?_) #[true, true, true, true, true, true, true, true, false, true, false, false, false, false, false, false, false, false, false, false, false, false, false, false, false, false, false, false, false, false, false, false, false, false, false, false, false, false, false, false, false, false, false, false, false, false, false, false, false, false, false, false, false, false, false] rfl rfl (take_ofW HT_.out HW_.out (by kernel_rfl)) (fun _ _ _ h => h) (Or.inl ⟨by rfl, ?_⟩) hHeld ?_ ?_
                      rotate_left
                      · rintro w' ⟨s0, s1, s2, s3, s4, s5⟩
                        go_simp
                        with_reducible rfl
                      rotate_left
                      · simp only [Act.put, List.setIfInBounds_toArray, List.set_cons_zero, List.set_cons_succ, i64_w, i32_w]
                        rfl
                      refine one_ (i := 8) (N := some 80) #[true, true, true, true, true, true, true, true, true, true, false, false, false, false, false, false, false, false, false, false, false, false, false, false, false, false, false, false, false, false, false, false, false, false, false, false, false, false, false, false, false, false, false, false, false, false, false, false, false, false, false, false, false, false, false] rfl rfl (one_of HT_.out (by kernel_rfl)) (by decide) (fun K hK => ?_)
                      refine goes_ Try.func31 (by kernel_rfl) rfl #[.agg #[.int .u64 t486, .int .u64 t487], .agg #[.int .u64 t492, .int .u64 t493]] (by rfl) rfl rfl (by (try simp only [List.map_toArray, List.map_cons, List.map_nil]); first | done | rfl | (simp only [List.length_drop, List.length_take]; rfl)) ?_
                      with_reducible refine (tnum_Sub.calls t486 t487 t492 t493 t520 t521 _ A85.out).mono ?_
                      rintro e w100 ⟨rfl, hb⟩
                      refine ⟨_, rfl, ?_⟩
                      have n0_ := Aside0.mk (blk_below (g := gb490) (o := .cells #[.int .u64 t486, .int .u64 t487] 24 (0, 0)) (by (with_reducible repeat (first | refine blk_drewN ?_ _ | refine blk_drew ?_ | refine blk_alloc ?_ _)); exact BK490.out) hb)
                      have n1_ := Aside0.mk (blk_below (g := gb491) (o := .cells #[.int .u64 t488, .int .u64 t489] 24 (0, 0)) (by (with_reducible repeat (first | refine blk_drewN ?_ _ | refine blk_drew ?_ | refine blk_alloc ?_ _)); exact BK491.out) hb)
                      have n2_ := Aside0.mk (blk_below (g := gb496) (o := .cells #[.int .u64 t492, .int .u64 t493] 24 (0, 0)) (by (with_reducible repeat (first | refine blk_drewN ?_ _ | refine blk_drew ?_ | refine blk_alloc ?_ _)); exact BK496.out) hb)
                      have n3_ := Aside0.mk (blk_below (g := gb497) (o := .cells #[.int .u64 t494, .int .u64 t495] 24 (0, 0)) (by (with_reducible repeat (first | refine blk_drewN ?_ _ | refine blk_drew ?_ | refine blk_alloc ?_ _)); exact BK497.out) hb)
                      have n4_ := Aside0.mk (below_step (by repeat (first | (with_reducible first | exact HB.out | apply below_alloc | apply pw_below_drewN | apply below_drew1 | refine below_set ?_ GE490.out | refine below_set ?_ GE491.out | refine below_set ?_ GE496.out | refine below_set ?_ GE497.out) | exact HB.out)) hb)
                      clear BK490
                      clear BK491
                      clear BK496
                      clear BK497
                      clear HB
                      have BK490 := n0_
                      have BK491 := n1_
                      have BK496 := n2_
                      have BK497 := n3_
                      have HB := n4_
                      clear n0_ n1_ n2_ n3_ n4_
                      (try clear hb)
                      (try clear hb2)
                      (try clear hk)
                      (try clear hi)
                      refine hK.out _ _ ⟨(blk_cell BK490.out 0).trans rfl, (blk_cell BK490.out 1).trans rfl, (blk_cell BK496.out 0).trans rfl, (blk_cell BK496.out 1).trans rfl, (blk_cell BK497.out 0).trans rfl, (blk_cell BK497.out 1).trans rfl⟩ (fun hHeld => ?_)
                      clear hK K
                      refine norm_ (a' := ?_) ?_ ?_
                      rotate_left
                      · show Act.put _ (some 80) _ = _
                        simp only [Act.put, List.setIfInBounds_toArray, List.set_cons_zero, List.set_cons_succ, i64_w, i32_w]
                        rfl
                      refine pure_ (i := 10) (N := some 82) (v := ?_) (a' := ?_) #[true, true, true, true, true, true, true, true, true, true, true, false, false, false, false, false, false, false, false, false, false, false, false, false, false, false, false, false, false, false, false, false, false, false, false, false, false, false, false, false, false, false, false, false, false, false, false, false, false, false, false, false, false, false, false] rfl rfl (any_of HT_.out (by kernel_rfl)) (fun _ _ _ h => h) (Or.inl ⟨by rfl, ?_⟩) ?_ ?_
                      rotate_left
                      · intro w'
                        go_simp
                        with_reducible rfl
                      rotate_left
                      · simp only [Act.put, List.setIfInBounds_toArray, List.set_cons_zero, List.set_cons_succ, i64_w, i32_w]
                        rfl
                      refine pure_ (i := 11) (N := some 83) (v := ?_) (a' := ?_) #[true, true, true, true, true, true, true, true, true, true, true, true, false, false, false, false, false, false, false, false, false, false, false, false, false, false, false, false, false, false, false, false, false, false, false, false, false, false, false, false, false, false, false, false, false, false, false, false, false, false, false, false, false, false, false] rfl rfl (any_of HT_.out (by kernel_rfl)) (fun _ _ _ h => h) (Or.inl ⟨by rfl, ?_⟩) ?_ ?_
                      rotate_left
                      · intro w'
                        go_simp
                        with_reducible rfl
                      rotate_left
                      · simp only [Act.put, List.setIfInBounds_toArray, List.set_cons_zero, List.set_cons_succ, i64_w, i32_w]
                        rfl
                      refine pure_ (i := 12) (N := some 84) (v := ?_) (a' := ?_) #[true, true, true, true, true, true, true, true, true, true, true, true, true, false, false, false, false, false, false, false, false, false, false, false, false, false, false, false, false, false, false, false, false, false, false, false, false, false, false, false, false, false, false, false, false, false, false, false, false, false, false, false, false, false, false] rfl rfl (any_of HT_.out (by kernel_rfl)) (fun _ _ _ h => h) (Or.inl ⟨by rfl, ?_⟩) ?_ ?_
                      rotate_left
                      · intro w'
                        go_simp
                        with_reducible rfl
                      rotate_left
                      · simp only [Act.put, List.setIfInBounds_toArray, List.set_cons_zero, List.set_cons_succ, i64_w, i32_w]
                        rfl
                      refine take_ (i := 13) (N := some 85) (v := ?_) (a' := ?_) #[true, true, true, true, true, true, true, true, true, true, true, true, true, true, false, false, false, false, false, false, false, false, false, false, false, false, false, false, false, false, false, false, false, false, false, false, false, false, false, false, false, false, false, false, false, false, false, false, false, false, false, false, false, false, false] rfl rfl (take_ofW HT_.out HW_.out (by kernel_rfl)) (fun _ _ _ h => h) (Or.inl ⟨by rfl, ?_⟩) hHeld ?_ ?_
                      rotate_left
                      · rintro w' ⟨s0, s1, s2, s3, s4, s5⟩
                        go_simp
                        with_reducible rfl
                      rotate_left
                      · simp only [Act.put, List.setIfInBounds_toArray, List.set_cons_zero, List.set_cons_succ, i64_w, i32_w]
                        rfl
                      refine take_ (i := 14) (N := some 86) (v := ?_) (a' := ?_) #[true, true, true, true, true, true, true, true, true, true, true, true, true, true, true, false, false, false, false, false, false, false, false, false, false, false, false, false, false, false, false, false, false, false, false, false, false, false, false, false, false, false, false, false, false, false, false, false, false, false, false, false, false, false, false] rfl rfl (take_ofW HT_.out HW_.out (by kernel_rfl)) (fun _ _ _ h => h) (Or.inl ⟨by rfl, ?_⟩) hHeld ?_ ?_
                      rotate_left
                      · rintro w' ⟨s0, s1, s2, s3, s4, s5⟩
                        go_simp
                        with_reducible rfl
                      rotate_left
                      · simp only [Act.put, List.setIfInBounds_toArray, List.set_cons_zero, List.set_cons_succ, i64_w, i32_w]
                        rfl
                      refine take_ (i := 16) (N := some 88) (v := ?_) (a' := ?_) #[true, true, true, true, true, true, true, true, true, true, true, true, true, true, true, false, true, false, false, false, false, false, false, false, false, false, false, false, false, false, false, false, false, false, false, false, false, false, false, false, false, false, false, false, false, false, false, false, false, false, false, false, false, false, false] rfl rfl (take_ofW HT_.out HW_.out (by kernel_rfl)) (fun _ _ _ h => h) (Or.inl ⟨by rfl, ?_⟩) hHeld ?_ ?_
                      rotate_left
                      · rintro w' ⟨s0, s1, s2, s3, s4, s5⟩
                        go_simp
                        with_reducible rfl
                      rotate_left
                      · simp only [Act.put, List.setIfInBounds_toArray, List.set_cons_zero, List.set_cons_succ, i64_w, i32_w]
                        rfl
                      refine one_ (i := 15) (N := some 87) #[true, true, true, true, true, true, true, true, true, true, true, true, true, true, true, true, true, false, false, false, false, false, false, false, false, false, false, false, false, false, false, false, false, false, false, false, false, false, false, false, false, false, false, false, false, false, false, false, false, false, false, false, false, false, false] rfl rfl (one_of HT_.out (by kernel_rfl)) (by decide) (fun K hK => ?_)
                      refine goes_ Try.func27 (by kernel_rfl) rfl #[.agg #[.int .u64 t486, .int .u64 t487], .agg #[.int .u64 t494, .int .u64 t495]] (by rfl) rfl rfl (by (try simp only [List.map_toArray, List.map_cons, List.map_nil]); first | done | rfl | (simp only [List.length_drop, List.length_take]; rfl)) ?_
                      with_reducible refine (tnum_And.calls t486 t487 t494 t495 t522 t523 _ A87.out).mono ?_
                      rintro e w101 ⟨rfl, hb⟩
                      refine ⟨_, rfl, ?_⟩
                      have n0_ := Aside0.mk (blk_below (g := gb490) (o := .cells #[.int .u64 t486, .int .u64 t487] 24 (0, 0)) (by (with_reducible repeat (first | refine blk_drewN ?_ _ | refine blk_drew ?_ | refine blk_alloc ?_ _)); exact BK490.out) hb)
                      have n1_ := Aside0.mk (blk_below (g := gb491) (o := .cells #[.int .u64 t488, .int .u64 t489] 24 (0, 0)) (by (with_reducible repeat (first | refine blk_drewN ?_ _ | refine blk_drew ?_ | refine blk_alloc ?_ _)); exact BK491.out) hb)
                      have n2_ := Aside0.mk (blk_below (g := gb496) (o := .cells #[.int .u64 t492, .int .u64 t493] 24 (0, 0)) (by (with_reducible repeat (first | refine blk_drewN ?_ _ | refine blk_drew ?_ | refine blk_alloc ?_ _)); exact BK496.out) hb)
                      have n3_ := Aside0.mk (blk_below (g := gb497) (o := .cells #[.int .u64 t494, .int .u64 t495] 24 (0, 0)) (by (with_reducible repeat (first | refine blk_drewN ?_ _ | refine blk_drew ?_ | refine blk_alloc ?_ _)); exact BK497.out) hb)
                      have n4_ := Aside0.mk (below_step (by repeat (first | (with_reducible first | exact HB.out | apply below_alloc | apply pw_below_drewN | apply below_drew1 | refine below_set ?_ GE490.out | refine below_set ?_ GE491.out | refine below_set ?_ GE496.out | refine below_set ?_ GE497.out) | exact HB.out)) hb)
                      clear BK490
                      clear BK491
                      clear BK496
                      clear BK497
                      clear HB
                      have BK490 := n0_
                      have BK491 := n1_
                      have BK496 := n2_
                      have BK497 := n3_
                      have HB := n4_
                      clear n0_ n1_ n2_ n3_ n4_
                      (try clear hb)
                      (try clear hb2)
                      (try clear hk)
                      (try clear hi)
                      refine hK.out _ _ ⟨(blk_cell BK490.out 0).trans rfl, (blk_cell BK490.out 1).trans rfl, (blk_cell BK496.out 0).trans rfl, (blk_cell BK496.out 1).trans rfl, (blk_cell BK497.out 0).trans rfl, (blk_cell BK497.out 1).trans rfl⟩ (fun hHeld => ?_)
                      clear hK K
                      refine norm_ (a' := ?_) ?_ ?_
                      rotate_left
                      · show Act.put _ (some 87) _ = _
                        simp only [Act.put, List.setIfInBounds_toArray, List.set_cons_zero, List.set_cons_succ, i64_w, i32_w]
                        rfl
                      refine pure_ (i := 17) (N := some 89) (v := ?_) (a' := ?_) #[true, true, true, true, true, true, true, true, true, true, true, true, true, true, true, true, true, true, false, false, false, false, false, false, false, false, false, false, false, false, false, false, false, false, false, false, false, false, false, false, false, false, false, false, false, false, false, false, false, false, false, false, false, false, false] rfl rfl (any_of HT_.out (by kernel_rfl)) (fun _ _ _ h => h) (Or.inl ⟨by rfl, ?_⟩) ?_ ?_
                      rotate_left
                      · intro w'
                        go_simp
                        with_reducible rfl
                      rotate_left
                      · simp only [Act.put, List.setIfInBounds_toArray, List.set_cons_zero, List.set_cons_succ, i64_w, i32_w]
                        rfl
                      refine pure_ (i := 18) (N := some 90) (v := ?_) (a' := ?_) #[true, true, true, true, true, true, true, true, true, true, true, true, true, true, true, true, true, true, true, false, false, false, false, false, false, false, false, false, false, false, false, false, false, false, false, false, false, false, false, false, false, false, false, false, false, false, false, false, false, false, false, false, false, false, false] rfl rfl (any_of HT_.out (by kernel_rfl)) (fun _ _ _ h => h) (Or.inl ⟨by rfl, ?_⟩) ?_ ?_
                      rotate_left
                      · intro w'
                        go_simp
                        with_reducible rfl
                      rotate_left
                      · simp only [Act.put, List.setIfInBounds_toArray, List.set_cons_zero, List.set_cons_succ, i64_w, i32_w]
                        rfl
                      refine pure_ (i := 19) (N := some 91) (v := ?_) (a' := ?_) #[true, true, true, true, true, true, true, true, true, true, true, true, true, true, true, true, true, true, true, true, false, false, false, false, false, false, false, false, false, false, false, false, false, false, false, false, false, false, false, false, false, false, false, false, false, false, false, false, false, false, false, false, false, false, false] rfl rfl (any_of HT_.out (by kernel_rfl)) (fun _ _ _ h => h) (Or.inl ⟨by rfl, ?_⟩) ?_ ?_
                      rotate_left
                      · intro w'
                        go_simp
                        with_reducible rfl
                      rotate_left
                      · simp only [Act.put, List.setIfInBounds_toArray, List.set_cons_zero, List.set_cons_succ, i64_w, i32_w]
                        rfl
                      refine take_ (i := 20) (N := some 92) (v := ?_) (a' := ?_) #[true, true, true, true, true, true, true, true, true, true, true, true, true, true, true, true, true, true, true, true, true, false, false, false, false, false, false, false, false, false, false, false, false, false, false, false, false, false, false, false, false, false, false, false, false, false, false, false, false, false, false, false, false, false, false] rfl rfl (take_ofW HT_.out HW_.out (by kernel_rfl)) (fun _ _ _ h => h) (Or.inl ⟨by rfl, ?_⟩) hHeld ?_ ?_
                      rotate_left
                      · rintro w' ⟨s0, s1, s2, s3, s4, s5⟩
                        go_simp
                        with_reducible rfl
                      rotate_left
                      · simp only [Act.put, List.setIfInBounds_toArray, List.set_cons_zero, List.set_cons_succ, i64_w, i32_w]
                        rfl
                      refine take_ (i := 21) (N := some 93) (v := ?_) (a' := ?_) #[true, true, true, true, true, true, true, true, true, true, true, true, true, true, true, true, true, true, true, true, true, true, false, false, false, false, false, false, false, false, false, false, false, false, false, false, false, false, false, false, false, false, false, false, false, false, false, false, false, false, false, false, false, false, false] rfl rfl (take_ofW HT_.out HW_.out (by kernel_rfl)) (fun _ _ _ h => h) (Or.inl ⟨by rfl, ?_⟩) hHeld ?_ ?_
                      rotate_left
                      · rintro w' ⟨s0, s1, s2, s3, s4, s5⟩
                        go_simp
                        with_reducible rfl
                      rotate_left
                      · simp only [Act.put, List.setIfInBounds_toArray, List.set_cons_zero, List.set_cons_succ, i64_w, i32_w]
                        rfl
                      refine take_ (i := 23) (N := some 95) (v := ?_) (a' := ?_) #[true, true, true, true, true, true, true, true, true, true, true, true, true, true, true, true, true, true, true, true, true, true, false, true, false, false, false, false, false, false, false, false, false, false, false, false, false, false, false, false, false, false, false, false, false, false, false, false, false, false, false, false, false, false, false] rfl rfl (take_ofW HT_.out HW_.out (by kernel_rfl)) (fun _ _ _ h => h) (Or.inl ⟨by rfl, ?_⟩) hHeld ?_ ?_
                      rotate_left
                      · rintro w' ⟨s0, s1, s2, s3, s4, s5⟩
                        go_simp
                        with_reducible rfl
                      rotate_left
                      · simp only [Act.put, List.setIfInBounds_toArray, List.set_cons_zero, List.set_cons_succ, i64_w, i32_w]
                        rfl
                      refine one_ (i := 22) (N := some 94) #[true, true, true, true, true, true, true, true, true, true, true, true, true, true, true, true, true, true, true, true, true, true, true, true, false, false, false, false, false, false, false, false, false, false, false, false, false, false, false, false, false, false, false, false, false, false, false, false, false, false, false, false, false, false, false] rfl rfl (one_of HT_.out (by kernel_rfl)) (by decide) (fun K hK => ?_)
                      refine goes_ Try.func35 (by kernel_rfl) rfl #[.agg #[.int .u64 t486, .int .u64 t487], .agg #[.int .u64 t492, .int .u64 t493]] (by rfl) rfl rfl (by (try simp only [List.map_toArray, List.map_cons, List.map_nil]); first | done | rfl | (simp only [List.length_drop, List.length_take]; rfl)) ?_
                      with_reducible refine (tnum_Or.calls t486 t487 t492 t493 t524 t525 _ A89.out).mono ?_
                      rintro e w102 ⟨rfl, hb⟩
                      refine ⟨_, rfl, ?_⟩
                      have n0_ := Aside0.mk (blk_below (g := gb490) (o := .cells #[.int .u64 t486, .int .u64 t487] 24 (0, 0)) (by (with_reducible repeat (first | refine blk_drewN ?_ _ | refine blk_drew ?_ | refine blk_alloc ?_ _)); exact BK490.out) hb)
                      have n1_ := Aside0.mk (blk_below (g := gb491) (o := .cells #[.int .u64 t488, .int .u64 t489] 24 (0, 0)) (by (with_reducible repeat (first | refine blk_drewN ?_ _ | refine blk_drew ?_ | refine blk_alloc ?_ _)); exact BK491.out) hb)
                      have n2_ := Aside0.mk (blk_below (g := gb496) (o := .cells #[.int .u64 t492, .int .u64 t493] 24 (0, 0)) (by (with_reducible repeat (first | refine blk_drewN ?_ _ | refine blk_drew ?_ | refine blk_alloc ?_ _)); exact BK496.out) hb)
                      have n3_ := Aside0.mk (blk_below (g := gb497) (o := .cells #[.int .u64 t494, .int .u64 t495] 24 (0, 0)) (by (with_reducible repeat (first | refine blk_drewN ?_ _ | refine blk_drew ?_ | refine blk_alloc ?_ _)); exact BK497.out) hb)
                      have n4_ := Aside0.mk (below_step (by repeat (first | (with_reducible first | exact HB.out | apply below_alloc | apply pw_below_drewN | apply below_drew1 | refine below_set ?_ GE490.out | refine below_set ?_ GE491.out | refine below_set ?_ GE496.out | refine below_set ?_ GE497.out) | exact HB.out)) hb)
                      clear BK490
                      clear BK491
                      clear BK496
                      clear BK497
                      clear HB
                      have BK490 := n0_
                      have BK491 := n1_
                      have BK496 := n2_
                      have BK497 := n3_
                      have HB := n4_
                      clear n0_ n1_ n2_ n3_ n4_
                      (try clear hb)
                      (try clear hb2)
                      (try clear hk)
                      (try clear hi)
                      refine hK.out _ _ ⟨(blk_cell BK490.out 0).trans rfl, (blk_cell BK490.out 1).trans rfl, (blk_cell BK496.out 0).trans rfl, (blk_cell BK496.out 1).trans rfl, (blk_cell BK497.out 0).trans rfl, (blk_cell BK497.out 1).trans rfl⟩ (fun hHeld => ?_)
                      clear hK K
                      refine norm_ (a' := ?_) ?_ ?_
                      rotate_left
                      · show Act.put _ (some 94) _ = _
                        simp only [Act.put, List.setIfInBounds_toArray, List.set_cons_zero, List.set_cons_succ, i64_w, i32_w]
                        rfl
                      refine pure_ (i := 24) (N := some 96) (v := ?_) (a' := ?_) #[true, true, true, true, true, true, true, true, true, true, true, true, true, true, true, true, true, true, true, true, true, true, true, true, true, false, false, false, false, false, false, false, false, false, false, false, false, false, false, false, false, false, false, false, false, false, false, false, false, false, false, false, false, false, false] rfl rfl (any_of HT_.out (by kernel_rfl)) (fun _ _ _ h => h) (Or.inl ⟨by rfl, ?_⟩) ?_ ?_
                      rotate_left
                      · intro w'
                        go_simp
                        with_reducible rfl
                      rotate_left
                      · simp only [Act.put, List.setIfInBounds_toArray, List.set_cons_zero, List.set_cons_succ, i64_w, i32_w]
                        rfl
                      refine pure_ (i := 25) (N := some 97) (v := ?_) (a' := ?_) #[true, true, true, true, true, true, true, true, true, true, true, true, true, true, true, true, true, true, true, true, true, true, true, true, true, true, false, false, false, false, false, false, false, false, false, false, false, false, false, false, false, false, false, false, false, false, false, false, false, false, false, false, false, false, false] rfl rfl (any_of HT_.out (by kernel_rfl)) (fun _ _ _ h => h) (Or.inl ⟨by rfl, ?_⟩) ?_ ?_
                      rotate_left
                      · intro w'
                        go_simp
                        with_reducible rfl
                      rotate_left
                      · simp only [Act.put, List.setIfInBounds_toArray, List.set_cons_zero, List.set_cons_succ, i64_w, i32_w]
                        rfl
                      refine pure_ (i := 26) (N := some 98) (v := ?_) (a' := ?_) #[true, true, true, true, true, true, true, true, true, true, true, true, true, true, true, true, true, true, true, true, true, true, true, true, true, true, true, false, false, false, false, false, false, false, false, false, false, false, false, false, false, false, false, false, false, false, false, false, false, false, false, false, false, false, false] rfl rfl (any_of HT_.out (by kernel_rfl)) (fun _ _ _ h => h) (Or.inl ⟨by rfl, ?_⟩) ?_ ?_
                      rotate_left
                      · intro w'
                        go_simp
                        with_reducible rfl
                      rotate_left
                      · simp only [Act.put, List.setIfInBounds_toArray, List.set_cons_zero, List.set_cons_succ, i64_w, i32_w]
                        rfl
                      refine take_ (i := 27) (N := some 99) (v := ?_) (a' := ?_) #[true, true, true, true, true, true, true, true, true, true, true, true, true, true, true, true, true, true, true, true, true, true, true, true, true, true, true, true, false, false, false, false, false, false, false, false, false, false, false, false, false, false, false, false, false, false, false, false, false, false, false, false, false, false, false] rfl rfl (take_ofW HT_.out HW_.out (by kernel_rfl)) (fun _ _ _ h => h) (Or.inl ⟨by rfl, ?_⟩) hHeld ?_ ?_
                      rotate_left
                      · rintro w' ⟨s0, s1, s2, s3, s4, s5⟩
                        go_simp
                        with_reducible rfl
                      rotate_left
                      · simp only [Act.put, List.setIfInBounds_toArray, List.set_cons_zero, List.set_cons_succ, i64_w, i32_w]
                        rfl
                      refine take_ (i := 28) (N := some 100) (v := ?_) (a' := ?_) #[true, true, true, true, true, true, true, true, true, true, true, true, true, true, true, true, true, true, true, true, true, true, true, true, true, true, true, true, true, false, false, false, false, false, false, false, false, false, false, false, false, false, false, false, false, false, false, false, false, false, false, false, false, false, false] rfl rfl (take_ofW HT_.out HW_.out (by kernel_rfl)) (fun _ _ _ h => h) (Or.inl ⟨by rfl, ?_⟩) hHeld ?_ ?_
                      rotate_left
                      · rintro w' ⟨s0, s1, s2, s3, s4, s5⟩
                        go_simp
                        with_reducible rfl
                      rotate_left
                      · simp only [Act.put, List.setIfInBounds_toArray, List.set_cons_zero, List.set_cons_succ, i64_w, i32_w]
                        rfl
                      refine take_ (i := 30) (N := some 102) (v := ?_) (a' := ?_) #[true, true, true, true, true, true, true, true, true, true, true, true, true, true, true, true, true, true, true, true, true, true, true, true, true, true, true, true, true, false, true, false, false, false, false, false, false, false, false, false, false, false, false, false, false, false, false, false, false, false, false, false, false, false, false] rfl rfl (take_ofW HT_.out HW_.out (by kernel_rfl)) (fun _ _ _ h => h) (Or.inl ⟨by rfl, ?_⟩) hHeld ?_ ?_
                      rotate_left
                      · rintro w' ⟨s0, s1, s2, s3, s4, s5⟩
                        go_simp
                        with_reducible rfl
                      rotate_left
                      · simp only [Act.put, List.setIfInBounds_toArray, List.set_cons_zero, List.set_cons_succ, i64_w, i32_w]
                        rfl
                      refine one_ (i := 29) (N := some 101) #[true, true, true, true, true, true, true, true, true, true, true, true, true, true, true, true, true, true, true, true, true, true, true, true, true, true, true, true, true, true, true, false, false, false, false, false, false, false, false, false, false, false, false, false, false, false, false, false, false, false, false, false, false, false, false] rfl rfl (one_of HT_.out (by kernel_rfl)) (by decide) (fun K hK => ?_)
                      refine goes_ Try.func36 (by kernel_rfl) rfl #[.agg #[.int .u64 t486, .int .u64 t487], .agg #[.int .u64 t492, .int .u64 t493]] (by rfl) rfl rfl (by (try simp only [List.map_toArray, List.map_cons, List.map_nil]); first | done | rfl | (simp only [List.length_drop, List.length_take]; rfl)) ?_
                      with_reducible refine (tnum_Xor.calls t486 t487 t492 t493 t526 t527 _ A91.out).mono ?_
                      rintro e w103 ⟨rfl, hb⟩
                      refine ⟨_, rfl, ?_⟩
                      have n0_ := Aside0.mk (blk_below (g := gb490) (o := .cells #[.int .u64 t486, .int .u64 t487] 24 (0, 0)) (by (with_reducible repeat (first | refine blk_drewN ?_ _ | refine blk_drew ?_ | refine blk_alloc ?_ _)); exact BK490.out) hb)
                      have n1_ := Aside0.mk (blk_below (g := gb491) (o := .cells #[.int .u64 t488, .int .u64 t489] 24 (0, 0)) (by (with_reducible repeat (first | refine blk_drewN ?_ _ | refine blk_drew ?_ | refine blk_alloc ?_ _)); exact BK491.out) hb)
                      have n2_ := Aside0.mk (blk_below (g := gb496) (o := .cells #[.int .u64 t492, .int .u64 t493] 24 (0, 0)) (by (with_reducible repeat (first | refine blk_drewN ?_ _ | refine blk_drew ?_ | refine blk_alloc ?_ _)); exact BK496.out) hb)
                      have n3_ := Aside0.mk (blk_below (g := gb497) (o := .cells #[.int .u64 t494, .int .u64 t495] 24 (0, 0)) (by (with_reducible repeat (first | refine blk_drewN ?_ _ | refine blk_drew ?_ | refine blk_alloc ?_ _)); exact BK497.out) hb)
                      have n4_ := Aside0.mk (below_step (by repeat (first | (with_reducible first | exact HB.out | apply below_alloc | apply pw_below_drewN | apply below_drew1 | refine below_set ?_ GE490.out | refine below_set ?_ GE491.out | refine below_set ?_ GE496.out | refine below_set ?_ GE497.out) | exact HB.out)) hb)
                      clear BK490
                      clear BK491
                      clear BK496
                      clear BK497
                      clear HB
                      have BK490 := n0_
                      have BK491 := n1_
                      have BK496 := n2_
                      have BK497 := n3_
                      have HB := n4_
                      clear n0_ n1_ n2_ n3_ n4_
                      (try clear hb)
                      (try clear hb2)
                      (try clear hk)
                      (try clear hi)
                      refine hK.out _ _ ⟨(blk_cell BK490.out 0).trans rfl, (blk_cell BK490.out 1).trans rfl, (blk_cell BK496.out 0).trans rfl, (blk_cell BK496.out 1).trans rfl, (blk_cell BK497.out 0).trans rfl, (blk_cell BK497.out 1).trans rfl⟩ (fun hHeld => ?_)
                      clear hK K
                      refine norm_ (a' := ?_) ?_ ?_
                      rotate_left
                      · show Act.put _ (some 101) _ = _
                        simp only [Act.put, List.setIfInBounds_toArray, List.set_cons_zero, List.set_cons_succ, i64_w, i32_w]
                        rfl
                      refine pure_ (i := 31) (N := some 103) (v := ?_) (a' := ?_) #[true, true, true, true, true, true, true, true, true, true, true, true, true, true, true, true, true, true, true, true, true, true, true, true, true, true, true, true, true, true, true, true, false, false, false, false, false, false, false, false, false, false, false, false, false, false, false, false, false, false, false, false, false, false, false] rfl rfl (any_of HT_.out (by kernel_rfl)) (fun _ _ _ h => h) (Or.inl ⟨by rfl, ?_⟩) ?_ ?_
                      rotate_left
                      · intro w'
                        go_simp
                        with_reducible rfl
                      rotate_left
                      · simp only [Act.put, List.setIfInBounds_toArray, List.set_cons_zero, List.set_cons_succ, i64_w, i32_w]
                        rfl
                      refine pure_ (i := 32) (N := some 104) (v := ?_) (a' := ?_) #[true, true, true, true, true, true, true, true, true, true, true, true, true, true, true, true, true, true, true, true, true, true, true, true, true, true, true, true, true, true, true, true, true, false, false, false, false, false, false, false, false, false, false, false, false, false, false, false, false, false, false, false, false, false, false] rfl rfl (any_of HT_.out (by kernel_rfl)) (fun _ _ _ h => h) (Or.inl ⟨by rfl, ?_⟩) ?_ ?_
                      rotate_left
                      · intro w'
                        go_simp
                        with_reducible rfl
                      rotate_left
                      · simp only [Act.put, List.setIfInBounds_toArray, List.set_cons_zero, List.set_cons_succ, i64_w, i32_w]
                        rfl
                      refine pure_ (i := 33) (N := some 105) (v := ?_) (a' := ?_) #[true, true, true, true, true, true, true, true, true, true, true, true, true, true, true, true, true, true, true, true, true, true, true, true, true, true, true, true, true, true, true, true, true, true, false, false, false, false, false, false, false, false, false, false, false, false, false, false, false, false, false, false, false, false, false] rfl rfl (any_of HT_.out (by kernel_rfl)) (fun _ _ _ h => h) (Or.inl ⟨by rfl, ?_⟩) ?_ ?_
                      rotate_left
                      · intro w'
                        go_simp
                        with_reducible rfl
                      rotate_left
                      · simp only [Act.put, List.setIfInBounds_toArray, List.set_cons_zero, List.set_cons_succ, i64_w, i32_w]
                        rfl
                      refine take_ (i := 34) (N := some 106) (v := ?_) (a' := ?_) #[true, true, true, true, true, true, true, true, true, true, true, true, true, true, true, true, true, true, true, true, true, true, true, true, true, true, true, true, true, true, true, true, true, true, true, false, false, false, false, false, false, false, false, false, false, false, false, false, false, false, false, false, false, false, false] rfl rfl (take_ofW HT_.out HW_.out (by kernel_rfl)) (fun _ _ _ h => h) (Or.inl ⟨by rfl, ?_⟩) hHeld ?_ ?_
                      rotate_left
                      · rintro w' ⟨s0, s1, s2, s3, s4, s5⟩
                        go_simp
                        with_reducible rfl
                      rotate_left
                      · simp only [Act.put, List.setIfInBounds_toArray, List.set_cons_zero, List.set_cons_succ, i64_w, i32_w]
                        rfl
                      refine take_ (i := 35) (N := some 107) (v := ?_) (a' := ?_) #[true, true, true, true, true, true, true, true, true, true, true, true, true, true, true, true, true, true, true, true, true, true, true, true, true, true, true, true, true, true, true, true, true, true, true, true, false, false, false, false, false, false, false, false, false, false, false, false, false, false, false, false, false, false, false] rfl rfl (take_ofW HT_.out HW_.out (by kernel_rfl)) (fun _ _ _ h => h) (Or.inl ⟨by rfl, ?_⟩) hHeld ?_ ?_
                      rotate_left
                      · rintro w' ⟨s0, s1, s2, s3, s4, s5⟩
                        go_simp
                        with_reducible rfl
                      rotate_left
                      · simp only [Act.put, List.setIfInBounds_toArray, List.set_cons_zero, List.set_cons_succ, i64_w, i32_w]
                        rfl
                      refine take_ (i := 37) (N := some 109) (v := ?_) (a' := ?_) #[true, true, true, true, true, true, true, true, true, true, true, true, true, true, true, true, true, true, true, true, true, true, true, true, true, true, true, true, true, true, true, true, true, true, true, true, false, true, false, false, false, false, false, false, false, false, false, false, false, false, false, false, false, false, false] rfl rfl (take_ofW HT_.out HW_.out (by kernel_rfl)) (fun _ _ _ h => h) (Or.inl ⟨by rfl, ?_⟩) hHeld ?_ ?_
                      rotate_left
                      · rintro w' ⟨s0, s1, s2, s3, s4, s5⟩
                        go_simp
                        with_reducible rfl
                      rotate_left
                      · simp only [Act.put, List.setIfInBounds_toArray, List.set_cons_zero, List.set_cons_succ, i64_w, i32_w]
                        rfl
                      refine one_ (i := 36) (N := some 108) #[true, true, true, true, true, true, true, true, true, true, true, true, true, true, true, true, true, true, true, true, true, true, true, true, true, true, true, true, true, true, true, true, true, true, true, true, true, true, false, false, false, false, false, false, false, false, false, false, false, false, false, false, false, false, false] rfl rfl (one_of HT_.out (by kernel_rfl)) (by decide) (fun K hK => ?_)
                      refine goes_ Try.func20 (by kernel_rfl) rfl #[.agg #[.int .u64 t486, .int .u64 t487], .agg #[.int .u64 t486, .int .u64 t487]] (by rfl) rfl rfl (by (try simp only [List.map_toArray, List.map_cons, List.map_nil]); first | done | rfl | (simp only [List.length_drop, List.length_take]; rfl)) ?_
                      with_reducible refine (tnum_Join.calls t486 t487 t486 t487 t528 t529 _ A93.out).mono ?_
                      rintro e w104 ⟨rfl, hb⟩
                      refine ⟨_, rfl, ?_⟩
                      have n0_ := Aside0.mk (blk_below (g := gb490) (o := .cells #[.int .u64 t486, .int .u64 t487] 24 (0, 0)) (by (with_reducible repeat (first | refine blk_drewN ?_ _ | refine blk_drew ?_ | refine blk_alloc ?_ _)); exact BK490.out) hb)
                      have n1_ := Aside0.mk (blk_below (g := gb491) (o := .cells #[.int .u64 t488, .int .u64 t489] 24 (0, 0)) (by (with_reducible repeat (first | refine blk_drewN ?_ _ | refine blk_drew ?_ | refine blk_alloc ?_ _)); exact BK491.out) hb)
                      have n2_ := Aside0.mk (blk_below (g := gb496) (o := .cells #[.int .u64 t492, .int .u64 t493] 24 (0, 0)) (by (with_reducible repeat (first | refine blk_drewN ?_ _ | refine blk_drew ?_ | refine blk_alloc ?_ _)); exact BK496.out) hb)
                      have n3_ := Aside0.mk (blk_below (g := gb497) (o := .cells #[.int .u64 t494, .int .u64 t495] 24 (0, 0)) (by (with_reducible repeat (first | refine blk_drewN ?_ _ | refine blk_drew ?_ | refine blk_alloc ?_ _)); exact BK497.out) hb)
                      have n4_ := Aside0.mk (below_step (by repeat (first | (with_reducible first | exact HB.out | apply below_alloc | apply pw_below_drewN | apply below_drew1 | refine below_set ?_ GE490.out | refine below_set ?_ GE491.out | refine below_set ?_ GE496.out | refine below_set ?_ GE497.out) | exact HB.out)) hb)
                      clear BK490
                      clear BK491
                      clear BK496
                      clear BK497
                      clear HB
                      have BK490 := n0_
                      have BK491 := n1_
                      have BK496 := n2_
                      have BK497 := n3_
                      have HB := n4_
                      clear n0_ n1_ n2_ n3_ n4_
                      (try clear hb)
                      (try clear hb2)
                      (try clear hk)
                      (try clear hi)
                      refine hK.out _ _ ⟨(blk_cell BK490.out 0).trans rfl, (blk_cell BK490.out 1).trans rfl, (blk_cell BK496.out 0).trans rfl, (blk_cell BK496.out 1).trans rfl, (blk_cell BK497.out 0).trans rfl, (blk_cell BK497.out 1).trans rfl⟩ (fun hHeld => ?_)
                      clear hK K
                      refine norm_ (a' := ?_) ?_ ?_
                      rotate_left
                      · show Act.put _ (some 108) _ = _
                        simp only [Act.put, List.setIfInBounds_toArray, List.set_cons_zero, List.set_cons_succ, i64_w, i32_w]
                        rfl
                      refine pure_ (i := 38) (N := some 110) (v := ?_) (a' := ?_) #[true, true, true, true, true, true, true, true, true, true, true, true, true, true, true, true, true, true, true, true, true, true, true, true, true, true, true, true, true, true, true, true, true, true, true, true, true, true, true, false, false, false, false, false, false, false, false, false, false, false, false, false, false, false, false] rfl rfl (any_of HT_.out (by kernel_rfl)) (fun _ _ _ h => h) (Or.inl ⟨by rfl, ?_⟩) ?_ ?_
                      rotate_left
                      · intro w'
                        go_simp
                        with_reducible rfl
                      rotate_left
                      · simp only [Act.put, List.setIfInBounds_toArray, List.set_cons_zero, List.set_cons_succ, i64_w, i32_w]
                        rfl
                      refine pure_ (i := 39) (N := some 111) (v := ?_) (a' := ?_) #[true, true, true, true, true, true, true, true, true, true, true, true, true, true, true, true, true, true, true, true, true, true, true, true, true, true, true, true, true, true, true, true, true, true, true, true, true, true, true, true, false, false, false, false, false, false, false, false, false, false, false, false, false, false, false] rfl rfl (any_of HT_.out (by kernel_rfl)) (fun _ _ _ h => h) (Or.inl ⟨by rfl, ?_⟩) ?_ ?_
                      rotate_left
                      · intro w'
                        go_simp
                        with_reducible rfl
                      rotate_left
                      · simp only [Act.put, List.setIfInBounds_toArray, List.set_cons_zero, List.set_cons_succ, i64_w, i32_w]
                        rfl
                      refine pure_ (i := 40) (N := some 112) (v := ?_) (a' := ?_) #[true, true, true, true, true, true, true, true, true, true, true, true, true, true, true, true, true, true, true, true, true, true, true, true, true, true, true, true, true, true, true, true, true, true, true, true, true, true, true, true, true, false, false, false, false, false, false, false, false, false, false, false, false, false, false] rfl rfl (any_of HT_.out (by kernel_rfl)) (fun _ _ _ h => h) (Or.inl ⟨by rfl, ?_⟩) ?_ ?_
                      rotate_left
                      · intro w'
                        go_simp
                        with_reducible rfl
                      rotate_left
                      · simp only [Act.put, List.setIfInBounds_toArray, List.set_cons_zero, List.set_cons_succ, i64_w, i32_w]
                        rfl
                      refine take_ (i := 41) (N := some 113) (v := ?_) (a' := ?_) #[true, true, true, true, true, true, true, true, true, true, true, true, true, true, true, true, true, true, true, true, true, true, true, true, true, true, true, true, true, true, true, true, true, true, true, true, true, true, true, true, true, true, false, false, false, false, false, false, false, false, false, false, false, false, false] rfl rfl (take_ofW HT_.out HW_.out (by kernel_rfl)) (fun _ _ _ h => h) (Or.inl ⟨by rfl, ?_⟩) hHeld ?_ ?_
                      rotate_left
                      · rintro w' ⟨s0, s1, s2, s3, s4, s5⟩
                        go_simp
                        with_reducible rfl
                      rotate_left
                      · simp only [Act.put, List.setIfInBounds_toArray, List.set_cons_zero, List.set_cons_succ, i64_w, i32_w]
                        rfl
                      refine take_ (i := 42) (N := some 114) (v := ?_) (a' := ?_) #[true, true, true, true, true, true, true, true, true, true, true, true, true, true, true, true, true, true, true, true, true, true, true, true, true, true, true, true, true, true, true, true, true, true, true, true, true, true, true, true, true, true, true, false, false, false, false, false, false, false, false, false, false, false, false] rfl rfl (take_ofW HT_.out HW_.out (by kernel_rfl)) (fun _ _ _ h => h) (Or.inl ⟨by rfl, ?_⟩) hHeld ?_ ?_
                      rotate_left
                      · rintro w' ⟨s0, s1, s2, s3, s4, s5⟩
                        go_simp
                        with_reducible rfl
                      rotate_left
                      · simp only [Act.put, List.setIfInBounds_toArray, List.set_cons_zero, List.set_cons_succ, i64_w, i32_w]
                        rfl
                      refine take_ (i := 44) (N := some 116) (v := ?_) (a' := ?_) #[true, true, true, true, true, true, true, true, true, true, true, true, true, true, true, true, true, true, true, true, true, true, true, true, true, true, true, true, true, true, true, true, true, true, true, true, true, true, true, true, true, true, true, false, true, false, false, false, false, false, false, false, false, false, false] rfl rfl (take_ofW HT_.out HW_.out (by kernel_rfl)) (fun _ _ _ h => h) (Or.inl ⟨by rfl, ?_⟩) hHeld ?_ ?_
                      rotate_left
                      · rintro w' ⟨s0, s1, s2, s3, s4, s5⟩
                        go_simp
                        with_reducible rfl
                      rotate_left
                      · simp only [Act.put, List.setIfInBounds_toArray, List.set_cons_zero, List.set_cons_succ, i64_w, i32_w]
                        rfl
                      refine one_ (i := 43) (N := some 115) #[true, true, true, true, true, true, true, true, true, true, true, true, true, true, true, true, true, true, true, true, true, true, true, true, true, true, true, true, true, true, true, true, true, true, true, true, true, true, true, true, true, true, true, true, true, false, false, false, false, false, false, false, false, false, false] rfl rfl (one_of HT_.out (by kernel_rfl)) (by decide) (fun K hK => ?_)
                      refine goes_ Try.func33 (by kernel_rfl) rfl #[.agg #[.int .u64 t486, .int .u64 t487], .agg #[.int .u64 t492, .int .u64 t493]] (by rfl) rfl rfl (by (try simp only [List.map_toArray, List.map_cons, List.map_nil]); first | done | rfl | (simp only [List.length_drop, List.length_take]; rfl)) ?_
                      with_reducible refine (tnum_Mul.calls kj8 t486 t487 t492 t493 t530 t531 _ A95.out).mono ?_
                      rintro e w105 ⟨rfl, hb⟩
                      refine ⟨_, rfl, ?_⟩
                      have n0_ := Aside0.mk (blk_below (g := gb490) (o := .cells #[.int .u64 t486, .int .u64 t487] 24 (0, 0)) (by (with_reducible repeat (first | refine blk_drewN ?_ _ | refine blk_drew ?_ | refine blk_alloc ?_ _)); exact BK490.out) hb)
                      have n1_ := Aside0.mk (blk_below (g := gb491) (o := .cells #[.int .u64 t488, .int .u64 t489] 24 (0, 0)) (by (with_reducible repeat (first | refine blk_drewN ?_ _ | refine blk_drew ?_ | refine blk_alloc ?_ _)); exact BK491.out) hb)
                      have n2_ := Aside0.mk (blk_below (g := gb496) (o := .cells #[.int .u64 t492, .int .u64 t493] 24 (0, 0)) (by (with_reducible repeat (first | refine blk_drewN ?_ _ | refine blk_drew ?_ | refine blk_alloc ?_ _)); exact BK496.out) hb)
                      have n3_ := Aside0.mk (blk_below (g := gb497) (o := .cells #[.int .u64 t494, .int .u64 t495] 24 (0, 0)) (by (with_reducible repeat (first | refine blk_drewN ?_ _ | refine blk_drew ?_ | refine blk_alloc ?_ _)); exact BK497.out) hb)
                      have n4_ := Aside0.mk (below_step (by repeat (first | (with_reducible first | exact HB.out | apply below_alloc | apply pw_below_drewN | apply below_drew1 | refine below_set ?_ GE490.out | refine below_set ?_ GE491.out | refine below_set ?_ GE496.out | refine below_set ?_ GE497.out) | exact HB.out)) hb)
                      clear BK490
                      clear BK491
                      clear BK496
                      clear BK497
                      clear HB
                      have BK490 := n0_
                      have BK491 := n1_
                      have BK496 := n2_
                      have BK497 := n3_
                      have HB := n4_
                      clear n0_ n1_ n2_ n3_ n4_
                      (try clear hb)
                      (try clear hb2)
                      (try clear hk)
                      (try clear hi)
                      refine hK.out _ _ ⟨(blk_cell BK490.out 0).trans rfl, (blk_cell BK490.out 1).trans rfl, (blk_cell BK496.out 0).trans rfl, (blk_cell BK496.out 1).trans rfl, (blk_cell BK497.out 0).trans rfl, (blk_cell BK497.out 1).trans rfl⟩ (fun hHeld => ?_)
                      clear hK K
                      refine norm_ (a' := ?_) ?_ ?_
                      rotate_left
                      · show Act.put _ (some 115) _ = _
                        simp only [Act.put, List.setIfInBounds_toArray, List.set_cons_zero, List.set_cons_succ, i64_w, i32_w]
                        rfl
                      refine pure_ (i := 45) (N := some 117) (v := ?_) (a' := ?_) #[true, true, true, true, true, true, true, true, true, true, true, true, true, true, true, true, true, true, true, true, true, true, true, true, true, true, true, true, true, true, true, true, true, true, true, true, true, true, true, true, true, true, true, true, true, true, false, false, false, false, false, false, false, false, false] rfl rfl (any_of HT_.out (by kernel_rfl)) (fun _ _ _ h => h) (Or.inl ⟨by rfl, ?_⟩) ?_ ?_
                      rotate_left
                      · intro w'
                        go_simp
                        with_reducible rfl
                      rotate_left
                      · simp only [Act.put, List.setIfInBounds_toArray, List.set_cons_zero, List.set_cons_succ, i64_w, i32_w]
                        rfl
                      refine pure_ (i := 46) (N := some 118) (v := ?_) (a' := ?_) #[true, true, true, true, true, true, true, true, true, true, true, true, true, true, true, true, true, true, true, true, true, true, true, true, true, true, true, true, true, true, true, true, true, true, true, true, true, true, true, true, true, true, true, true, true, true, true, false, false, false, false, false, false, false, false] rfl rfl (any_of HT_.out (by kernel_rfl)) (fun _ _ _ h => h) (Or.inl ⟨by rfl, ?_⟩) ?_ ?_
                      rotate_left
                      · intro w'
                        go_simp
                        with_reducible rfl
                      rotate_left
                      · simp only [Act.put, List.setIfInBounds_toArray, List.set_cons_zero, List.set_cons_succ, i64_w, i32_w]
                        rfl
                      refine pure_ (i := 47) (N := some 119) (v := ?_) (a' := ?_) #[true, true, true, true, true, true, true, true, true, true, true, true, true, true, true, true, true, true, true, true, true, true, true, true, true, true, true, true, true, true, true, true, true, true, true, true, true, true, true, true, true, true, true, true, true, true, true, true, false, false, false, false, false, false, false] rfl rfl (any_of HT_.out (by kernel_rfl)) (fun _ _ _ h => h) (Or.inl ⟨by rfl, ?_⟩) ?_ ?_
                      rotate_left
                      · intro w'
                        go_simp
                        with_reducible rfl
                      rotate_left
                      · simp only [Act.put, List.setIfInBounds_toArray, List.set_cons_zero, List.set_cons_succ, i64_w, i32_w]
                        rfl
                      refine take_ (i := 48) (N := some 120) (v := ?_) (a' := ?_) #[true, true, true, true, true, true, true, true, true, true, true, true, true, true, true, true, true, true, true, true, true, true, true, true, true, true, true, true, true, true, true, true, true, true, true, true, true, true, true, true, true, true, true, true, true, true, true, true, true, false, false, false, false, false, false] rfl rfl (take_ofW HT_.out HW_.out (by kernel_rfl)) (fun _ _ _ h => h) (Or.inl ⟨by rfl, ?_⟩) hHeld ?_ ?_
                      rotate_left
                      · rintro w' ⟨s0, s1, s2, s3, s4, s5⟩
                        go_simp
                        with_reducible rfl
                      rotate_left
                      · simp only [Act.put, List.setIfInBounds_toArray, List.set_cons_zero, List.set_cons_succ, i64_w, i32_w]
                        rfl
                      refine take_ (i := 49) (N := some 121) (v := ?_) (a' := ?_) #[true, true, true, true, true, true, true, true, true, true, true, true, true, true, true, true, true, true, true, true, true, true, true, true, true, true, true, true, true, true, true, true, true, true, true, true, true, true, true, true, true, true, true, true, true, true, true, true, true, true, false, false, false, false, false] rfl rfl (take_ofW HT_.out HW_.out (by kernel_rfl)) (fun _ _ _ h => h) (Or.inl ⟨by rfl, ?_⟩) hHeld ?_ ?_
                      rotate_left
                      · rintro w' ⟨s0, s1, s2, s3, s4, s5⟩
                        go_simp
                        with_reducible rfl
                      rotate_left
                      · simp only [Act.put, List.setIfInBounds_toArray, List.set_cons_zero, List.set_cons_succ, i64_w, i32_w]
                        rfl
                      refine take_ (i := 51) (N := some 123) (v := ?_) (a' := ?_) #[true, true, true, true, true, true, true, true, true, true, true, true, true, true, true, true, true, true, true, true, true, true, true, true, true, true, true, true, true, true, true, true, true, true, true, true, true, true, true, true, true, true, true, true, true, true, true, true, true, true, false, true, false, false, false] rfl rfl (take_ofW HT_.out HW_.out (by kernel_rfl)) (fun _ _ _ h => h) (Or.inl ⟨by rfl, ?_⟩) hHeld ?_ ?_
                      rotate_left
                      · rintro w' ⟨s0, s1, s2, s3, s4, s5⟩
                        go_simp
                        with_reducible rfl
                      rotate_left
                      · simp only [Act.put, List.setIfInBounds_toArray, List.set_cons_zero, List.set_cons_succ, i64_w, i32_w]
                        rfl
                      refine one_ (i := 50) (N := some 122) #[true, true, true, true, true, true, true, true, true, true, true, true, true, true, true, true, true, true, true, true, true, true, true, true, true, true, true, true, true, true, true, true, true, true, true, true, true, true, true, true, true, true, true, true, true, true, true, true, true, true, true, true, false, false, false] rfl rfl (one_of HT_.out (by kernel_rfl)) (by decide) (fun K hK => ?_)
                      refine goes_ Try.func33 (by kernel_rfl) rfl #[.agg #[.int .u64 t492, .int .u64 t493], .agg #[.int .u64 t486, .int .u64 t487]] (by rfl) rfl rfl (by (try simp only [List.map_toArray, List.map_cons, List.map_nil]); first | done | rfl | (simp only [List.length_drop, List.length_take]; rfl)) ?_
                      with_reducible refine (tnum_Mul.calls kj8 t492 t493 t486 t487 t532 t533 _ A97.out).mono ?_
                      rintro e w106 ⟨rfl, hb⟩
                      refine ⟨_, rfl, ?_⟩
                      have n0_ := Aside0.mk (blk_below (g := gb490) (o := .cells #[.int .u64 t486, .int .u64 t487] 24 (0, 0)) (by (with_reducible repeat (first | refine blk_drewN ?_ _ | refine blk_drew ?_ | refine blk_alloc ?_ _)); exact BK490.out) hb)
                      have n1_ := Aside0.mk (blk_below (g := gb491) (o := .cells #[.int .u64 t488, .int .u64 t489] 24 (0, 0)) (by (with_reducible repeat (first | refine blk_drewN ?_ _ | refine blk_drew ?_ | refine blk_alloc ?_ _)); exact BK491.out) hb)
                      have n2_ := Aside0.mk (blk_below (g := gb496) (o := .cells #[.int .u64 t492, .int .u64 t493] 24 (0, 0)) (by (with_reducible repeat (first | refine blk_drewN ?_ _ | refine blk_drew ?_ | refine blk_alloc ?_ _)); exact BK496.out) hb)
                      have n3_ := Aside0.mk (blk_below (g := gb497) (o := .cells #[.int .u64 t494, .int .u64 t495] 24 (0, 0)) (by (with_reducible repeat (first | refine blk_drewN ?_ _ | refine blk_drew ?_ | refine blk_alloc ?_ _)); exact BK497.out) hb)
                      have n4_ := Aside0.mk (below_step (by repeat (first | (with_reducible first | exact HB.out | apply below_alloc | apply pw_below_drewN | apply below_drew1 | refine below_set ?_ GE490.out | refine below_set ?_ GE491.out | refine below_set ?_ GE496.out | refine below_set ?_ GE497.out) | exact HB.out)) hb)
                      clear BK490
                      clear BK491
                      clear BK496
                      clear BK497
                      clear HB
                      have BK490 := n0_
                      have BK491 := n1_
                      have BK496 := n2_
                      have BK497 := n3_
                      have HB := n4_
                      clear n0_ n1_ n2_ n3_ n4_
                      (try clear hb)
                      (try clear hb2)
                      (try clear hk)
                      (try clear hi)
                      refine hK.out _ _ ⟨(blk_cell BK490.out 0).trans rfl, (blk_cell BK490.out 1).trans rfl, (blk_cell BK496.out 0).trans rfl, (blk_cell BK496.out 1).trans rfl, (blk_cell BK497.out 0).trans rfl, (blk_cell BK497.out 1).trans rfl⟩ (fun hHeld => ?_)
                      clear hK K
                      refine norm_ (a' := ?_) ?_ ?_
                      rotate_left
                      · show Act.put _ (some 122) _ = _
                        simp only [Act.put, List.setIfInBounds_toArray, List.set_cons_zero, List.set_cons_succ, i64_w, i32_w]
                        rfl
                      refine pure_ (i := 52) (N := some 124) (v := ?_) (a' := ?_) #[true, true, true, true, true, true, true, true, true, true, true, true, true, true, true, true, true, true, true, true, true, true, true, true, true, true, true, true, true, true, true, true, true, true, true, true, true, true, true, true, true, true, true, true, true, true, true, true, true, true, true, true, true, false, false] rfl rfl (any_of HT_.out (by kernel_rfl)) (fun _ _ _ h => h) (Or.inl ⟨by rfl, ?_⟩) ?_ ?_
                      rotate_left
                      · intro w'
                        go_simp
                        with_reducible rfl
                      rotate_left
                      · simp only [Act.put, List.setIfInBounds_toArray, List.set_cons_zero, List.set_cons_succ, i64_w, i32_w]
                        rfl
                      refine pure_ (i := 53) (N := some 125) (v := ?_) (a' := ?_) #[true, true, true, true, true, true, true, true, true, true, true, true, true, true, true, true, true, true, true, true, true, true, true, true, true, true, true, true, true, true, true, true, true, true, true, true, true, true, true, true, true, true, true, true, true, true, true, true, true, true, true, true, true, true, false] rfl rfl (any_of HT_.out (by kernel_rfl)) (fun _ _ _ h => h) (Or.inl ⟨by rfl, ?_⟩) ?_ ?_
                      rotate_left
                      · intro w'
                        go_simp
                        with_reducible rfl
                      rotate_left
                      · simp only [Act.put, List.setIfInBounds_toArray, List.set_cons_zero, List.set_cons_succ, i64_w, i32_w]
                        rfl
                      refine pure_ (i := 54) (N := some 14) (v := ?_) (a' := ?_) #[true, true, true, true, true, true, true, true, true, true, true, true, true, true, true, true, true, true, true, true, true, true, true, true, true, true, true, true, true, true, true, true, true, true, true, true, true, true, true, true, true, true, true, true, true, true, true, true, true, true, true, true, true, true, true] rfl rfl (any_of HT_.out (by kernel_rfl)) (fun _ _ _ h => h) (Or.inl ⟨by rfl, ?_⟩) ?_ ?_
                      rotate_left
                      · intro w'
                        go_simp
                        with_reducible rfl
                      rotate_left
                      · simp only [Act.put, List.setIfInBounds_toArray, List.set_cons_zero, List.set_cons_succ, i64_w, i32_w]
                        rfl
                      refine done_ (done_of HT_.out (by kernel_rfl)) ?_
                      try go_wp2
                      go_meet
                      case rel => exact ⟨_, ((t532 == t492 && (t533 == t493))), (by first | rfl | (simp; done) | (simp [*]; done)), H', ⟨by have := HJ8.out; first | omega | exact Nat.le_refl _⟩, ⟨by (with_reducible repeat (first | refine blk_drewN ?_ _ | refine blk_drew ?_ | refine blk_alloc ?_ _)); exact BK490.out⟩, ⟨by (with_reducible repeat (first | refine blk_drewN ?_ _ | refine blk_drew ?_ | refine blk_alloc ?_ _)); exact BK491.out⟩, ⟨by (with_reducible repeat (first | refine blk_drewN ?_ _ | refine blk_drew ?_ | refine blk_alloc ?_ _)); exact BK496.out⟩, ⟨by (with_reducible repeat (first | refine blk_drewN ?_ _ | refine blk_drew ?_ | refine blk_alloc ?_ _)); exact BK497.out⟩, ⟨by repeat (first | (with_reducible first | exact HB.out | apply below_alloc | apply pw_below_drewN | apply below_drew1 | refine below_set ?_ GE490.out | refine below_set ?_ GE491.out | refine below_set ?_ GE496.out | refine below_set ?_ GE497.out) | exact HB.out)⟩⟩
                    · rw [if_neg c96] at H
                      have c96b0 : (t530 == t492 && (t531 == t493)) = false := by simpa using c96
                      (try (have c96b1 : decide (t530 = t492 && (t531 == t493)) = false := by simpa using c96))
                      (try (have c96b2 : (t530 == t492 && (t531 == t493)) = false := by simpa using c96))
                      (try (have c96b3 : ¬ (t530 = t492 && (t531 == t493)) := by simpa using c96))
                      clear c96
                      exact absurd (H.trans (congrArg some hr_.out)) (wardenlaw03_TnumSides.j1_no2 _ _ _ _ _ _)
                  · rw [if_neg c94] at H
                    have c94b0 : (t528 == t486 && (t529 == t487)) = false := by simpa using c94
                    (try (have c94b1 : decide (t528 = t486 && (t529 == t487)) = false := by simpa using c94))
                    (try (have c94b2 : (t528 == t486 && (t529 == t487)) = false := by simpa using c94))
                    (try (have c94b3 : ¬ (t528 = t486 && (t529 == t487)) := by simpa using c94))
                    clear c94
                    exact absurd (H.trans (congrArg some hr_.out)) (wardenlaw03_TnumSides.j1_no2 _ _ _ _ _ _)
                · rw [if_neg c92] at H
                  have c92b0 : (t526 == t486 && (t527 == t487)) = false := by simpa using c92
                  (try (have c92b1 : decide (t526 = t486 && (t527 == t487)) = false := by simpa using c92))
                  (try (have c92b2 : (t526 == t486 && (t527 == t487)) = false := by simpa using c92))
                  (try (have c92b3 : ¬ (t526 = t486 && (t527 == t487)) := by simpa using c92))
                  clear c92
                  exact absurd (H.trans (congrArg some hr_.out)) (wardenlaw03_TnumSides.j1_no2 _ _ _ _ _ _)
              · rw [if_neg c90] at H
                have c90b0 : (t524 == t486 && (t525 == t487)) = false := by simpa using c90
                (try (have c90b1 : decide (t524 = t486 && (t525 == t487)) = false := by simpa using c90))
                (try (have c90b2 : (t524 == t486 && (t525 == t487)) = false := by simpa using c90))
                (try (have c90b3 : ¬ (t524 = t486 && (t525 == t487)) := by simpa using c90))
                clear c90
                exact absurd (H.trans (congrArg some hr_.out)) (wardenlaw03_TnumSides.j1_no2 _ _ _ _ _ _)
            · rw [if_neg c88] at H
              have c88b0 : (t522 == t486 && (t523 == t487)) = false := by simpa using c88
              (try (have c88b1 : decide (t522 = t486 && (t523 == t487)) = false := by simpa using c88))
              (try (have c88b2 : (t522 == t486 && (t523 == t487)) = false := by simpa using c88))
              (try (have c88b3 : ¬ (t522 = t486 && (t523 == t487)) := by simpa using c88))
              clear c88
              exact absurd (H.trans (congrArg some hr_.out)) (wardenlaw03_TnumSides.j1_no2 _ _ _ _ _ _)
          · rw [if_neg c86] at H
            have c86b0 : (t520 == t486 && (t521 == t487)) = false := by simpa using c86
            (try (have c86b1 : decide (t520 = t486 && (t521 == t487)) = false := by simpa using c86))
            (try (have c86b2 : (t520 == t486 && (t521 == t487)) = false := by simpa using c86))
            (try (have c86b3 : ¬ (t520 = t486 && (t521 == t487)) := by simpa using c86))
            clear c86
            exact absurd (H.trans (congrArg some hr_.out)) (wardenlaw03_TnumSides.j1_no2 _ _ _ _ _ _)
        · rw [if_neg c84] at H
          have c84b0 : (t518 == t486 && (t519 == t487)) = false := by simpa using c84
          (try (have c84b1 : decide (t518 = t486 && (t519 == t487)) = false := by simpa using c84))
          (try (have c84b2 : (t518 == t486 && (t519 == t487)) = false := by simpa using c84))
          (try (have c84b3 : ¬ (t518 = t486 && (t519 == t487)) := by simpa using c84))
          clear c84
          (first | rw [c84b0] | (simp only [i64_w, i32_w]; rw [c84b0]) | skip)
          exact absurd (H.trans (congrArg some hr_.out)) (wardenlaw03_TnumSides.j1_no2 _ _ _ _ _ _)
      case rest =>
        clear HC82
        try clear c2
        try clear p2
        try clear c8
        try clear c29
        try clear c84
        try clear c84b0
        try clear c84b1
        try clear c84b2
        obtain ⟨kq, x14_81, rfl, HA, HJ81, BK490, BK491, BK496, BK497, HB⟩ := hcut
        cases kq with
        | zero => exact absurd HA.out (by simp [wardenlaw03_TnumSides.j1])
        | succ kj81 =>
          have H := HA.out
          clear HA
          simp only [wardenlaw03_TnumSides.j1] at H
          replace H := Option.bind_eq_some_iff.mp H
          obtain ⟨⟨t534, t535, t536⟩, A1420, H⟩ := H
          replace H : ((tnum_Meet.f t488 t489 t486 t487).bind fun bt538 => ((tnum_Meet.f t486 t487 t486 t487).bind fun bt542 => (if x13_8 = true then (if x14_81 = true then (if (t534 == bt538.1 && (t535 == bt538.2.1)) = true then (if (t536 == bt538.2.2) = true then (if (bt542.1 == t486 && (bt542.2.1 == t487)) = true then (if bt542.2.2 = true then ((wardenlaw03_works.f kj81).bind fun t546 => (some t546)) else (some false)) else (some false)) else (some false)) else (some false)) else (some false)) else (some false)))) = some r := H
          have A142 := Aside0.mk A1420
          clear A1420
          replace H := Option.bind_eq_some_iff.mp H
          obtain ⟨⟨t538, t539, t540⟩, A1430, H⟩ := H
          replace H : ((tnum_Meet.f t486 t487 t486 t487).bind fun bt542 => (if x13_8 = true then (if x14_81 = true then (if (t534 == t538 && (t535 == t539)) = true then (if (t536 == t540) = true then (if (bt542.1 == t486 && (bt542.2.1 == t487)) = true then (if bt542.2.2 = true then ((wardenlaw03_works.f kj81).bind fun t546 => (some t546)) else (some false)) else (some false)) else (some false)) else (some false)) else (some false)) else (some false))) = some r := H
          have A143 := Aside0.mk A1430
          clear A1430
          replace H := Option.bind_eq_some_iff.mp H
          obtain ⟨⟨t542, t543, t544⟩, A1440, H⟩ := H
          replace H : (if x13_8 = true then (if x14_81 = true then (if (t534 == t538 && (t535 == t539)) = true then (if (t536 == t540) = true then (if (t542 == t486 && (t543 == t487)) = true then (if t544 = true then ((wardenlaw03_works.f kj81).bind fun t546 => (some t546)) else (some false)) else (some false)) else (some false)) else (some false)) else (some false)) else (some false)) = some r := H
          have A144 := Aside0.mk A1440
          clear A1440
          by_cases c145 : x13_8 = true
          · subst c145
            have H1 : (if x14_81 = true then (if (t534 == t538 && (t535 == t539)) = true then (if (t536 == t540) = true then (if (t542 == t486 && (t543 == t487)) = true then (if t544 = true then ((wardenlaw03_works.f kj81).bind fun t546 => (some t546)) else (some false)) else (some false)) else (some false)) else (some false)) else (some false)) = some r := by rw [if_pos rfl] at H; exact H
            clear H
            have H := H1
            clear H1
            by_cases c146 : x14_81 = true
            · subst c146
              have H1 : (if (t534 == t538 && (t535 == t539)) = true then (if (t536 == t540) = true then (if (t542 == t486 && (t543 == t487)) = true then (if t544 = true then ((wardenlaw03_works.f kj81).bind fun t546 => (some t546)) else (some false)) else (some false)) else (some false)) else (some false)) = some r := by rw [if_pos rfl] at H; exact H
              clear H
              have H := H1
              clear H1
              by_cases c147 : (t534 == t538 && (t535 == t539)) = true
              · rw [if_pos c147] at H
                have c147b0 : (t534 == t538 && (t535 == t539)) = true := c147
                (try (have c147b1 : decide (t534 = t538 && (t535 == t539)) = true := by simpa using c147))
                (try (have c147b2 : (t534 == t538 && (t535 == t539)) = true := by simpa using c147))
                clear c147
                by_cases c148 : (t536 == t540) = true
                · rw [if_pos c148] at H
                  have c148b0 : (t536 == t540) = true := c148
                  (try (have c148b1 : decide (t536 = t540) = true := by simpa using c148))
                  (try (have c148b2 : (t536 == t540) = true := by simpa using c148))
                  clear c148
                  by_cases c149 : (t542 == t486 && (t543 == t487)) = true
                  · rw [if_pos c149] at H
                    have c149b0 : (t542 == t486 && (t543 == t487)) = true := c149
                    (try (have c149b1 : decide (t542 = t486 && (t543 == t487)) = true := by simpa using c149))
                    (try (have c149b2 : (t542 == t486 && (t543 == t487)) = true := by simpa using c149))
                    clear c149
                    by_cases c150 : t544 = true
                    · subst c150
                      have H1 : ((wardenlaw03_works.f kj81).bind fun t546 => (some t546)) = some r := by rw [if_pos rfl] at H; exact H
                      clear H
                      have H := H1
                      clear H1
                      replace H := Option.bind_eq_some_iff.mp H
                      obtain ⟨t546, A1510, H⟩ := H
                      replace H : (some t546) = some r := H
                      have A151 := Aside0.mk A1510
                      clear A1510
                      obtain rfl := Option.some.inj H
                      have hnb152 := NB490_491.out
                      have hnc152 := NB491_490.out
                      have hnb153 := NB490_496.out
                      have hnc153 := NB496_490.out
                      have hnb154 := NB490_497.out
                      have hnc154 := NB497_490.out
                      have hcz155_0 : wc.cell? ⟨gb490, 0, none⟩ = some (.int .u64 t486) := (blk_cell BK490.out 0).trans rfl
                      have hcz155_1 : wc.cell? ⟨gb490, 1, none⟩ = some (.int .u64 t487) := (blk_cell BK490.out 1).trans rfl
                      have hfz155_0 := blk_frozen BK490.out 0
                      have hfz155_1 := blk_frozen BK490.out 1
                      have hnb156 := NB491_496.out
                      have hnc156 := NB496_491.out
                      have hnb157 := NB491_497.out
                      have hnc157 := NB497_491.out
                      have hcz158_0 : wc.cell? ⟨gb491, 0, none⟩ = some (.int .u64 t488) := (blk_cell BK491.out 0).trans rfl
                      have hcz158_1 : wc.cell? ⟨gb491, 1, none⟩ = some (.int .u64 t489) := (blk_cell BK491.out 1).trans rfl
                      have hfz158_0 := blk_frozen BK491.out 0
                      have hfz158_1 := blk_frozen BK491.out 1
                      go_wp2_with (first | ((with_reducible refine gate_callee (f := 10) rfl ?_); refine goesL_ (some 129) rfl rfl Try.func10 (by kernel_rfl) rfl #[.agg #[.int .u64 t486, .int .u64 t487], .agg #[.int .u64 t488, .int .u64 t489]] rfl (by (try simp only [List.map_toArray, List.map_cons, List.map_nil]); first | done | rfl | (simp only [List.length_drop, List.length_take]; rfl)) ?_; (with_reducible refine (tnum_Meet.calls t486 t487 t488 t489 t534 t535 t536 _ A142.out).mono ?_); rintro e w159 ⟨rfl, hb⟩; refine ⟨_, rfl, ?_⟩; have n0_ := Aside0.mk (blk_below (g := gb490) (o := .cells #[.int .u64 t486, .int .u64 t487] 24 (0, 0)) (by (with_reducible repeat (first | refine blk_drewN ?_ _ | refine blk_drew ?_ | refine blk_alloc ?_ _)); exact BK490.out) hb); have n1_ := Aside0.mk (blk_below (g := gb491) (o := .cells #[.int .u64 t488, .int .u64 t489] 24 (0, 0)) (by (with_reducible repeat (first | refine blk_drewN ?_ _ | refine blk_drew ?_ | refine blk_alloc ?_ _)); exact BK491.out) hb); have n2_ := Aside0.mk (blk_below (g := gb496) (o := .cells #[.int .u64 t492, .int .u64 t493] 24 (0, 0)) (by (with_reducible repeat (first | refine blk_drewN ?_ _ | refine blk_drew ?_ | refine blk_alloc ?_ _)); exact BK496.out) hb); have n3_ := Aside0.mk (blk_below (g := gb497) (o := .cells #[.int .u64 t494, .int .u64 t495] 24 (0, 0)) (by (with_reducible repeat (first | refine blk_drewN ?_ _ | refine blk_drew ?_ | refine blk_alloc ?_ _)); exact BK497.out) hb); have n4_ := Aside0.mk (below_step (by repeat (first | (with_reducible first | exact HB.out | apply below_alloc | apply pw_below_drewN | apply below_drew1 | refine below_set ?_ GE490.out | refine below_set ?_ GE491.out | refine below_set ?_ GE496.out | refine below_set ?_ GE497.out) | exact HB.out)) hb); clear BK490; clear BK491; clear BK496; clear BK497; clear HB; have BK490 := n0_; have BK491 := n1_; have BK496 := n2_; have BK497 := n3_; have HB := n4_; clear n0_ n1_ n2_ n3_ n4_; (try clear hb); (try clear hb2); (try clear hk); (try clear hi)) | ((with_reducible refine gate_dst (N := 15) rfl ?_); refine box_event ?hg (N := 15) ?hd (cs := #[.int .u64 0, .int .u64 0]) (t := 24) ?hr ?_; (case hd => rfl); (case hg => rfl); (case hr => first | (go_simp; done) | (go_simp; rfl)); intro gb537 hg w160 hbox hb; have n0_ := Aside0.mk (blk_below (g := gb490) (o := .cells #[.int .u64 t486, .int .u64 t487] 24 (0, 0)) (by (with_reducible repeat (first | refine blk_drewN ?_ _ | refine blk_drew ?_ | refine blk_alloc ?_ _)); exact BK490.out) hb); have n1_ := Aside0.mk (blk_below (g := gb491) (o := .cells #[.int .u64 t488, .int .u64 t489] 24 (0, 0)) (by (with_reducible repeat (first | refine blk_drewN ?_ _ | refine blk_drew ?_ | refine blk_alloc ?_ _)); exact BK491.out) hb); have n2_ := Aside0.mk (blk_below (g := gb496) (o := .cells #[.int .u64 t492, .int .u64 t493] 24 (0, 0)) (by (with_reducible repeat (first | refine blk_drewN ?_ _ | refine blk_drew ?_ | refine blk_alloc ?_ _)); exact BK496.out) hb); have n3_ := Aside0.mk (blk_below (g := gb497) (o := .cells #[.int .u64 t494, .int .u64 t495] 24 (0, 0)) (by (with_reducible repeat (first | refine blk_drewN ?_ _ | refine blk_drew ?_ | refine blk_alloc ?_ _)); exact BK497.out) hb); have n4_ := Aside0.mk (below_step (by repeat (first | (with_reducible first | exact HB.out | apply below_alloc | apply pw_below_drewN | apply below_drew1 | refine below_set ?_ GE490.out | refine below_set ?_ GE491.out | refine below_set ?_ GE496.out | refine below_set ?_ GE497.out) | exact HB.out)) hb); have n5_ := Aside0.mk (hbox); have n6_ := Aside0.mk ((by rw [hg]; exact (below_size (by repeat (first | (with_reducible first | exact HB.out | apply below_alloc | apply pw_below_drewN | apply below_drew1 | refine below_set ?_ GE490.out | refine below_set ?_ GE491.out | refine below_set ?_ GE496.out | refine below_set ?_ GE497.out) | exact HB.out))) : w.heap.size ≤ gb537)); have n7_ := Aside0.mk ((by rw [hg]; exact (below_size (by repeat (first | (with_reducible first | exact HB.out | apply below_alloc | apply pw_below_drewN | apply below_drew1 | refine below_set ?_ GE490.out | refine below_set ?_ GE491.out | refine below_set ?_ GE496.out | refine below_set ?_ GE497.out) | exact HB.out))) : w.heap.size ≤ gb537)); have n8_ := Aside0.mk ((by rw [hg]; exact Nat.ne_of_lt (blk_lt (g := gb490) (o := .cells #[.int .u64 t486, .int .u64 t487] 24 (0, 0)) (by (with_reducible repeat (first | refine blk_drewN ?_ _ | refine blk_drew ?_ | refine blk_alloc ?_ _)); exact BK490.out)) : gb490 ≠ gb537)); have n9_ := Aside0.mk ((by rw [hg]; exact Nat.ne_of_gt (blk_lt (g := gb490) (o := .cells #[.int .u64 t486, .int .u64 t487] 24 (0, 0)) (by (with_reducible repeat (first | refine blk_drewN ?_ _ | refine blk_drew ?_ | refine blk_alloc ?_ _)); exact BK490.out)) : gb537 ≠ gb490)); have n10_ := Aside0.mk ((by rw [hg]; exact Nat.ne_of_lt (blk_lt (g := gb491) (o := .cells #[.int .u64 t488, .int .u64 t489] 24 (0, 0)) (by (with_reducible repeat (first | refine blk_drewN ?_ _ | refine blk_drew ?_ | refine blk_alloc ?_ _)); exact BK491.out)) : gb491 ≠ gb537)); have n11_ := Aside0.mk ((by rw [hg]; exact Nat.ne_of_gt (blk_lt (g := gb491) (o := .cells #[.int .u64 t488, .int .u64 t489] 24 (0, 0)) (by (with_reducible repeat (first | refine blk_drewN ?_ _ | refine blk_drew ?_ | refine blk_alloc ?_ _)); exact BK491.out)) : gb537 ≠ gb491)); have n12_ := Aside0.mk ((by rw [hg]; exact Nat.ne_of_lt (blk_lt (g := gb496) (o := .cells #[.int .u64 t492, .int .u64 t493] 24 (0, 0)) (by (with_reducible repeat (first | refine blk_drewN ?_ _ | refine blk_drew ?_ | refine blk_alloc ?_ _)); exact BK496.out)) : gb496 ≠ gb537)); have n13_ := Aside0.mk ((by rw [hg]; exact Nat.ne_of_gt (blk_lt (g := gb496) (o := .cells #[.int .u64 t492, .int .u64 t493] 24 (0, 0)) (by (with_reducible repeat (first | refine blk_drewN ?_ _ | refine blk_drew ?_ | refine blk_alloc ?_ _)); exact BK496.out)) : gb537 ≠ gb496)); have n14_ := Aside0.mk ((by rw [hg]; exact Nat.ne_of_lt (blk_lt (g := gb497) (o := .cells #[.int .u64 t494, .int .u64 t495] 24 (0, 0)) (by (with_reducible repeat (first | refine blk_drewN ?_ _ | refine blk_drew ?_ | refine blk_alloc ?_ _)); exact BK497.out)) : gb497 ≠ gb537)); have n15_ := Aside0.mk ((by rw [hg]; exact Nat.ne_of_gt (blk_lt (g := gb497) (o := .cells #[.int .u64 t494, .int .u64 t495] 24 (0, 0)) (by (with_reducible repeat (first | refine blk_drewN ?_ _ | refine blk_drew ?_ | refine blk_alloc ?_ _)); exact BK497.out)) : gb537 ≠ gb497)); clear BK490; clear BK491; clear BK496; clear BK497; clear HB; have BK490 := n0_; have BK491 := n1_; have BK496 := n2_; have BK497 := n3_; have HB := n4_; have BK537 := n5_; have GW537 := n6_; have GE537 := n7_; have NB490_537 := n8_; have NB537_490 := n9_; have NB491_537 := n10_; have NB537_491 := n11_; have NB496_537 := n12_; have NB537_496 := n13_; have NB497_537 := n14_; have NB537_497 := n15_; clear n0_ n1_ n2_ n3_ n4_ n5_ n6_ n7_ n8_ n9_ n10_ n11_ n12_ n13_ n14_ n15_; clear hb hbox hg; have hnb161 := NB537_490.out; have hnc161 := NB490_537.out; have hnb162 := NB537_491.out; have hnc162 := NB491_537.out; have hnb163 := NB537_496.out; have hnc163 := NB496_537.out; have hnb164 := NB537_497.out; have hnc164 := NB497_537.out; have hcz165_0 : w160.cell? ⟨gb537, 0, none⟩ = some (.int .u64 0) := (blk_cell BK537.out 0).trans rfl; have hcz165_1 : w160.cell? ⟨gb537, 1, none⟩ = some (.int .u64 0) := (blk_cell BK537.out 1).trans rfl; have hfz165_0 := blk_frozen BK537.out 0; have hfz165_1 := blk_frozen BK537.out 1; have hcz166_0 : w160.cell? ⟨gb491, 0, none⟩ = some (.int .u64 t488) := (blk_cell BK491.out 0).trans rfl; have hcz166_1 : w160.cell? ⟨gb491, 1, none⟩ = some (.int .u64 t489) := (blk_cell BK491.out 1).trans rfl; have hfz166_0 := blk_frozen BK491.out 0; have hfz166_1 := blk_frozen BK491.out 1; have hcz167_0 : w160.cell? ⟨gb490, 0, none⟩ = some (.int .u64 t486) := (blk_cell BK490.out 0).trans rfl; have hcz167_1 : w160.cell? ⟨gb490, 1, none⟩ = some (.int .u64 t487) := (blk_cell BK490.out 1).trans rfl; have hfz167_0 := blk_frozen BK490.out 0; have hfz167_1 := blk_frozen BK490.out 1) | ((with_reducible refine gate_callee (f := 10) rfl ?_); refine goesL_ (some 135) rfl rfl Try.func10 (by kernel_rfl) rfl #[.agg #[.int .u64 t488, .int .u64 t489], .agg #[.int .u64 t486, .int .u64 t487]] rfl (by (try simp only [List.map_toArray, List.map_cons, List.map_nil]); first | done | rfl | (simp only [List.length_drop, List.length_take]; rfl)) ?_; (with_reducible refine (tnum_Meet.calls t488 t489 t486 t487 t538 t539 t540 _ A143.out).mono ?_); rintro e w168 ⟨rfl, hb⟩; refine ⟨_, rfl, ?_⟩; have n0_ := Aside0.mk (blk_below (g := gb490) (o := .cells #[.int .u64 t486, .int .u64 t487] 24 (0, 0)) (by (with_reducible repeat (first | refine blk_drewN ?_ _ | refine blk_drew ?_ | refine blk_alloc ?_ _)); refine blk_far ?_ NB490_537.out _; (with_reducible repeat (first | refine blk_drewN ?_ _ | refine blk_drew ?_ | refine blk_alloc ?_ _)); refine blk_far ?_ NB490_537.out _; (with_reducible repeat (first | refine blk_drewN ?_ _ | refine blk_drew ?_ | refine blk_alloc ?_ _)); exact BK490.out) hb); have n1_ := Aside0.mk (blk_below (g := gb491) (o := .cells #[.int .u64 t488, .int .u64 t489] 24 (0, 0)) (by (with_reducible repeat (first | refine blk_drewN ?_ _ | refine blk_drew ?_ | refine blk_alloc ?_ _)); refine blk_far ?_ NB491_537.out _; (with_reducible repeat (first | refine blk_drewN ?_ _ | refine blk_drew ?_ | refine blk_alloc ?_ _)); refine blk_far ?_ NB491_537.out _; (with_reducible repeat (first | refine blk_drewN ?_ _ | refine blk_drew ?_ | refine blk_alloc ?_ _)); exact BK491.out) hb); have n2_ := Aside0.mk (blk_below (g := gb496) (o := .cells #[.int .u64 t492, .int .u64 t493] 24 (0, 0)) (by (with_reducible repeat (first | refine blk_drewN ?_ _ | refine blk_drew ?_ | refine blk_alloc ?_ _)); refine blk_far ?_ NB496_537.out _; (with_reducible repeat (first | refine blk_drewN ?_ _ | refine blk_drew ?_ | refine blk_alloc ?_ _)); refine blk_far ?_ NB496_537.out _; (with_reducible repeat (first | refine blk_drewN ?_ _ | refine blk_drew ?_ | refine blk_alloc ?_ _)); exact BK496.out) hb); have n3_ := Aside0.mk (blk_below (g := gb497) (o := .cells #[.int .u64 t494, .int .u64 t495] 24 (0, 0)) (by (with_reducible repeat (first | refine blk_drewN ?_ _ | refine blk_drew ?_ | refine blk_alloc ?_ _)); refine blk_far ?_ NB497_537.out _; (with_reducible repeat (first | refine blk_drewN ?_ _ | refine blk_drew ?_ | refine blk_alloc ?_ _)); refine blk_far ?_ NB497_537.out _; (with_reducible repeat (first | refine blk_drewN ?_ _ | refine blk_drew ?_ | refine blk_alloc ?_ _)); exact BK497.out) hb); have n4_ := Aside0.mk (blk_below (g := gb537) (o := .cells #[.int .u64 t534, .int .u64 t535] 24 (0, 0)) (by (with_reducible repeat (first | refine blk_drewN ?_ _ | refine blk_drew ?_ | refine blk_alloc ?_ _)); refine blk_put (cs := #[.int .u64 t534, .int .u64 0]) ?_ 1 _ rfl; (with_reducible repeat (first | refine blk_drewN ?_ _ | refine blk_drew ?_ | refine blk_alloc ?_ _)); refine blk_put (cs := #[.int .u64 0, .int .u64 0]) ?_ 0 _ rfl; (with_reducible repeat (first | refine blk_drewN ?_ _ | refine blk_drew ?_ | refine blk_alloc ?_ _)); exact BK537.out) hb); have n5_ := Aside0.mk (below_step (by repeat (first | (with_reducible first | exact HB.out | apply below_alloc | apply pw_below_drewN | apply below_drew1 | refine below_set ?_ GE490.out | refine below_set ?_ GE491.out | refine below_set ?_ GE496.out | refine below_set ?_ GE497.out | refine below_set ?_ GE537.out) | exact HB.out)) hb); clear BK490; clear BK491; clear BK496; clear BK497; clear BK537; clear HB; have BK490 := n0_; have BK491 := n1_; have BK496 := n2_; have BK497 := n3_; have BK537 := n4_; have HB := n5_; clear n0_ n1_ n2_ n3_ n4_ n5_; (try clear hb); (try clear hb2); (try clear hk); (try clear hi)) | ((with_reducible refine gate_dst (N := 17) rfl ?_); refine box_event ?hg (N := 17) ?hd (cs := #[.int .u64 0, .int .u64 0]) (t := 24) ?hr ?_; (case hd => rfl); (case hg => rfl); (case hr => first | (go_simp; done) | (go_simp; rfl)); intro gb541 hg w169 hbox hb; have n0_ := Aside0.mk (blk_below (g := gb490) (o := .cells #[.int .u64 t486, .int .u64 t487] 24 (0, 0)) (by (with_reducible repeat (first | refine blk_drewN ?_ _ | refine blk_drew ?_ | refine blk_alloc ?_ _)); exact BK490.out) hb); have n1_ := Aside0.mk (blk_below (g := gb491) (o := .cells #[.int .u64 t488, .int .u64 t489] 24 (0, 0)) (by (with_reducible repeat (first | refine blk_drewN ?_ _ | refine blk_drew ?_ | refine blk_alloc ?_ _)); exact BK491.out) hb); have n2_ := Aside0.mk (blk_below (g := gb496) (o := .cells #[.int .u64 t492, .int .u64 t493] 24 (0, 0)) (by (with_reducible repeat (first | refine blk_drewN ?_ _ | refine blk_drew ?_ | refine blk_alloc ?_ _)); exact BK496.out) hb); have n3_ := Aside0.mk (blk_below (g := gb497) (o := .cells #[.int .u64 t494, .int .u64 t495] 24 (0, 0)) (by (with_reducible repeat (first | refine blk_drewN ?_ _ | refine blk_drew ?_ | refine blk_alloc ?_ _)); exact BK497.out) hb); have n4_ := Aside0.mk (blk_below (g := gb537) (o := .cells #[.int .u64 t534, .int .u64 t535] 24 (0, 0)) (by (with_reducible repeat (first | refine blk_drewN ?_ _ | refine blk_drew ?_ | refine blk_alloc ?_ _)); exact BK537.out) hb); have n5_ := Aside0.mk (below_step (by repeat (first | (with_reducible first | exact HB.out | apply below_alloc | apply pw_below_drewN | apply below_drew1 | refine below_set ?_ GE490.out | refine below_set ?_ GE491.out | refine below_set ?_ GE496.out | refine below_set ?_ GE497.out | refine below_set ?_ GE537.out) | exact HB.out)) hb); have n6_ := Aside0.mk (hbox); have n7_ := Aside0.mk ((by rw [hg]; exact (below_size (by repeat (first | (with_reducible first | exact HB.out | apply below_alloc | apply pw_below_drewN | apply below_drew1 | refine below_set ?_ GE490.out | refine below_set ?_ GE491.out | refine below_set ?_ GE496.out | refine below_set ?_ GE497.out | refine below_set ?_ GE537.out) | exact HB.out))) : w.heap.size ≤ gb541)); have n8_ := Aside0.mk ((by rw [hg]; exact (below_size (by repeat (first | (with_reducible first | exact HB.out | apply below_alloc | apply pw_below_drewN | apply below_drew1 | refine below_set ?_ GE490.out | refine below_set ?_ GE491.out | refine below_set ?_ GE496.out | refine below_set ?_ GE497.out | refine below_set ?_ GE537.out) | exact HB.out))) : w.heap.size ≤ gb541)); have n9_ := Aside0.mk ((by rw [hg]; exact Nat.ne_of_lt (blk_lt (g := gb490) (o := .cells #[.int .u64 t486, .int .u64 t487] 24 (0, 0)) (by (with_reducible repeat (first | refine blk_drewN ?_ _ | refine blk_drew ?_ | refine blk_alloc ?_ _)); exact BK490.out)) : gb490 ≠ gb541)); have n10_ := Aside0.mk ((by rw [hg]; exact Nat.ne_of_gt (blk_lt (g := gb490) (o := .cells #[.int .u64 t486, .int .u64 t487] 24 (0, 0)) (by (with_reducible repeat (first | refine blk_drewN ?_ _ | refine blk_drew ?_ | refine blk_alloc ?_ _)); exact BK490.out)) : gb541 ≠ gb490)); have n11_ := Aside0.mk ((by rw [hg]; exact Nat.ne_of_lt (blk_lt (g := gb491) (o := .cells #[.int .u64 t488, .int .u64 t489] 24 (0, 0)) (by (with_reducible repeat (first | refine blk_drewN ?_ _ | refine blk_drew ?_ | refine blk_alloc ?_ _)); exact BK491.out)) : gb491 ≠ gb541)); have n12_ := Aside0.mk ((by rw [hg]; exact Nat.ne_of_gt (blk_lt (g := gb491) (o := .cells #[.int .u64 t488, .int .u64 t489] 24 (0, 0)) (by (with_reducible repeat (first | refine blk_drewN ?_ _ | refine blk_drew ?_ | refine blk_alloc ?_ _)); exact BK491.out)) : gb541 ≠ gb491)); have n13_ := Aside0.mk ((by rw [hg]; exact Nat.ne_of_lt (blk_lt (g := gb496) (o := .cells #[.int .u64 t492, .int .u64 t493] 24 (0, 0)) (by (with_reducible repeat (first | refine blk_drewN ?_ _ | refine blk_drew ?_ | refine blk_alloc ?_ _)); exact BK496.out)) : gb496 ≠ gb541)); have n14_ := Aside0.mk ((by rw [hg]; exact Nat.ne_of_gt (blk_lt (g := gb496) (o := .cells #[.int .u64 t492, .int .u64 t493] 24 (0, 0)) (by (with_reducible repeat (first | refine blk_drewN ?_ _ | refine blk_drew ?_ | refine blk_alloc ?_ _)); exact BK496.out)) : gb541 ≠ gb496)); have n15_ := Aside0.mk ((by rw [hg]; exact Nat.ne_of_lt (blk_lt (g := gb497) (o := .cells #[.int .u64 t494, .int .u64 t495] 24 (0, 0)) (by (with_reducible repeat (first | refine blk_drewN ?_ _ | refine blk_drew ?_ | refine blk_alloc ?_ _)); exact BK497.out)) : gb497 ≠ gb541)); have n16_ := Aside0.mk ((by rw [hg]; exact Nat.ne_of_gt (blk_lt (g := gb497) (o := .cells #[.int .u64 t494, .int .u64 t495] 24 (0, 0)) (by (with_reducible repeat (first | refine blk_drewN ?_ _ | refine blk_drew ?_ | refine blk_alloc ?_ _)); exact BK497.out)) : gb541 ≠ gb497)); have n17_ := Aside0.mk ((by rw [hg]; exact Nat.ne_of_lt (blk_lt (g := gb537) (o := .cells #[.int .u64 t534, .int .u64 t535] 24 (0, 0)) (by (with_reducible repeat (first | refine blk_drewN ?_ _ | refine blk_drew ?_ | refine blk_alloc ?_ _)); exact BK537.out)) : gb537 ≠ gb541)); have n18_ := Aside0.mk ((by rw [hg]; exact Nat.ne_of_gt (blk_lt (g := gb537) (o := .cells #[.int .u64 t534, .int .u64 t535] 24 (0, 0)) (by (with_reducible repeat (first | refine blk_drewN ?_ _ | refine blk_drew ?_ | refine blk_alloc ?_ _)); exact BK537.out)) : gb541 ≠ gb537)); clear BK490; clear BK491; clear BK496; clear BK497; clear BK537; clear HB; have BK490 := n0_; have BK491 := n1_; have BK496 := n2_; have BK497 := n3_; have BK537 := n4_; have HB := n5_; have BK541 := n6_; have GW541 := n7_; have GE541 := n8_; have NB490_541 := n9_; have NB541_490 := n10_; have NB491_541 := n11_; have NB541_491 := n12_; have NB496_541 := n13_; have NB541_496 := n14_; have NB497_541 := n15_; have NB541_497 := n16_; have NB537_541 := n17_; have NB541_537 := n18_; clear n0_ n1_ n2_ n3_ n4_ n5_ n6_ n7_ n8_ n9_ n10_ n11_ n12_ n13_ n14_ n15_ n16_ n17_ n18_; clear hb hbox hg; have hnb170 := NB541_490.out; have hnc170 := NB490_541.out; have hnb171 := NB541_491.out; have hnc171 := NB491_541.out; have hnb172 := NB541_496.out; have hnc172 := NB496_541.out; have hnb173 := NB541_497.out; have hnc173 := NB497_541.out; have hnb174 := NB541_537.out; have hnc174 := NB537_541.out; have hcz175_0 : w169.cell? ⟨gb541, 0, none⟩ = some (.int .u64 0) := (blk_cell BK541.out 0).trans rfl; have hcz175_1 : w169.cell? ⟨gb541, 1, none⟩ = some (.int .u64 0) := (blk_cell BK541.out 1).trans rfl; have hfz175_0 := blk_frozen BK541.out 0; have hfz175_1 := blk_frozen BK541.out 1; have hcz176_0 : w169.cell? ⟨gb490, 0, none⟩ = some (.int .u64 t486) := (blk_cell BK490.out 0).trans rfl; have hcz176_1 : w169.cell? ⟨gb490, 1, none⟩ = some (.int .u64 t487) := (blk_cell BK490.out 1).trans rfl; have hfz176_0 := blk_frozen BK490.out 0; have hfz176_1 := blk_frozen BK490.out 1) | ((with_reducible refine gate_callee (f := 10) rfl ?_); refine goesL_ (some 141) rfl rfl Try.func10 (by kernel_rfl) rfl #[.agg #[.int .u64 t486, .int .u64 t487], .agg #[.int .u64 t486, .int .u64 t487]] rfl (by (try simp only [List.map_toArray, List.map_cons, List.map_nil]); first | done | rfl | (simp only [List.length_drop, List.length_take]; rfl)) ?_; (with_reducible refine (tnum_Meet.calls t486 t487 t486 t487 t542 t543 true _ A144.out).mono ?_); rintro e w177 ⟨rfl, hb⟩; refine ⟨_, rfl, ?_⟩; have n0_ := Aside0.mk (blk_below (g := gb490) (o := .cells #[.int .u64 t486, .int .u64 t487] 24 (0, 0)) (by (with_reducible repeat (first | refine blk_drewN ?_ _ | refine blk_drew ?_ | refine blk_alloc ?_ _)); refine blk_far ?_ NB490_541.out _; (with_reducible repeat (first | refine blk_drewN ?_ _ | refine blk_drew ?_ | refine blk_alloc ?_ _)); refine blk_far ?_ NB490_541.out _; (with_reducible repeat (first | refine blk_drewN ?_ _ | refine blk_drew ?_ | refine blk_alloc ?_ _)); exact BK490.out) hb); have n1_ := Aside0.mk (blk_below (g := gb491) (o := .cells #[.int .u64 t488, .int .u64 t489] 24 (0, 0)) (by (with_reducible repeat (first | refine blk_drewN ?_ _ | refine blk_drew ?_ | refine blk_alloc ?_ _)); refine blk_far ?_ NB491_541.out _; (with_reducible repeat (first | refine blk_drewN ?_ _ | refine blk_drew ?_ | refine blk_alloc ?_ _)); refine blk_far ?_ NB491_541.out _; (with_reducible repeat (first | refine blk_drewN ?_ _ | refine blk_drew ?_ | refine blk_alloc ?_ _)); exact BK491.out) hb); have n2_ := Aside0.mk (blk_below (g := gb496) (o := .cells #[.int .u64 t492, .int .u64 t493] 24 (0, 0)) (by (with_reducible repeat (first | refine blk_drewN ?_ _ | refine blk_drew ?_ | refine blk_alloc ?_ _)); refine blk_far ?_ NB496_541.out _; (with_reducible repeat (first | refine blk_drewN ?_ _ | refine blk_drew ?_ | refine blk_alloc ?_ _)); refine blk_far ?_ NB496_541.out _; (with_reducible repeat (first | refine blk_drewN ?_ _ | refine blk_drew ?_ | refine blk_alloc ?_ _)); exact BK496.out) hb); have n3_ := Aside0.mk (blk_below (g := gb497) (o := .cells #[.int .u64 t494, .int .u64 t495] 24 (0, 0)) (by (with_reducible repeat (first | refine blk_drewN ?_ _ | refine blk_drew ?_ | refine blk_alloc ?_ _)); refine blk_far ?_ NB497_541.out _; (with_reducible repeat (first | refine blk_drewN ?_ _ | refine blk_drew ?_ | refine blk_alloc ?_ _)); refine blk_far ?_ NB497_541.out _; (with_reducible repeat (first | refine blk_drewN ?_ _ | refine blk_drew ?_ | refine blk_alloc ?_ _)); exact BK497.out) hb); have n4_ := Aside0.mk (blk_below (g := gb537) (o := .cells #[.int .u64 t534, .int .u64 t535] 24 (0, 0)) (by (with_reducible repeat (first | refine blk_drewN ?_ _ | refine blk_drew ?_ | refine blk_alloc ?_ _)); refine blk_far ?_ NB537_541.out _; (with_reducible repeat (first | refine blk_drewN ?_ _ | refine blk_drew ?_ | refine blk_alloc ?_ _)); refine blk_far ?_ NB537_541.out _; (with_reducible repeat (first | refine blk_drewN ?_ _ | refine blk_drew ?_ | refine blk_alloc ?_ _)); exact BK537.out) hb); have n5_ := Aside0.mk (blk_below (g := gb541) (o := .cells #[.int .u64 t538, .int .u64 t539] 24 (0, 0)) (by (with_reducible repeat (first | refine blk_drewN ?_ _ | refine blk_drew ?_ | refine blk_alloc ?_ _)); refine blk_put (cs := #[.int .u64 t538, .int .u64 0]) ?_ 1 _ rfl; (with_reducible repeat (first | refine blk_drewN ?_ _ | refine blk_drew ?_ | refine blk_alloc ?_ _)); refine blk_put (cs := #[.int .u64 0, .int .u64 0]) ?_ 0 _ rfl; (with_reducible repeat (first | refine blk_drewN ?_ _ | refine blk_drew ?_ | refine blk_alloc ?_ _)); exact BK541.out) hb); have n6_ := Aside0.mk (below_step (by repeat (first | (with_reducible first | exact HB.out | apply below_alloc | apply pw_below_drewN | apply below_drew1 | refine below_set ?_ GE490.out | refine below_set ?_ GE491.out | refine below_set ?_ GE496.out | refine below_set ?_ GE497.out | refine below_set ?_ GE537.out | refine below_set ?_ GE541.out) | exact HB.out)) hb); clear BK490; clear BK491; clear BK496; clear BK497; clear BK537; clear BK541; clear HB; have BK490 := n0_; have BK491 := n1_; have BK496 := n2_; have BK497 := n3_; have BK537 := n4_; have BK541 := n5_; have HB := n6_; clear n0_ n1_ n2_ n3_ n4_ n5_ n6_; (try clear hb); (try clear hb2); (try clear hk); (try clear hi)) | ((with_reducible refine gate_dst (N := 19) rfl ?_); refine box_event ?hg (N := 19) ?hd (cs := #[.int .u64 0, .int .u64 0]) (t := 24) ?hr ?_; (case hd => rfl); (case hg => rfl); (case hr => first | (go_simp; done) | (go_simp; rfl)); intro gb545 hg w178 hbox hb; have n0_ := Aside0.mk (blk_below (g := gb490) (o := .cells #[.int .u64 t486, .int .u64 t487] 24 (0, 0)) (by (with_reducible repeat (first | refine blk_drewN ?_ _ | refine blk_drew ?_ | refine blk_alloc ?_ _)); exact BK490.out) hb); have n1_ := Aside0.mk (blk_below (g := gb491) (o := .cells #[.int .u64 t488, .int .u64 t489] 24 (0, 0)) (by (with_reducible repeat (first | refine blk_drewN ?_ _ | refine blk_drew ?_ | refine blk_alloc ?_ _)); exact BK491.out) hb); have n2_ := Aside0.mk (blk_below (g := gb496) (o := .cells #[.int .u64 t492, .int .u64 t493] 24 (0, 0)) (by (with_reducible repeat (first | refine blk_drewN ?_ _ | refine blk_drew ?_ | refine blk_alloc ?_ _)); exact BK496.out) hb); have n3_ := Aside0.mk (blk_below (g := gb497) (o := .cells #[.int .u64 t494, .int .u64 t495] 24 (0, 0)) (by (with_reducible repeat (first | refine blk_drewN ?_ _ | refine blk_drew ?_ | refine blk_alloc ?_ _)); exact BK497.out) hb); have n4_ := Aside0.mk (blk_below (g := gb537) (o := .cells #[.int .u64 t534, .int .u64 t535] 24 (0, 0)) (by (with_reducible repeat (first | refine blk_drewN ?_ _ | refine blk_drew ?_ | refine blk_alloc ?_ _)); exact BK537.out) hb); have n5_ := Aside0.mk (blk_below (g := gb541) (o := .cells #[.int .u64 t538, .int .u64 t539] 24 (0, 0)) (by (with_reducible repeat (first | refine blk_drewN ?_ _ | refine blk_drew ?_ | refine blk_alloc ?_ _)); exact BK541.out) hb); have n6_ := Aside0.mk (below_step (by repeat (first | (with_reducible first | exact HB.out | apply below_alloc | apply pw_below_drewN | apply below_drew1 | refine below_set ?_ GE490.out | refine below_set ?_ GE491.out | refine below_set ?_ GE496.out | refine below_set ?_ GE497.out | refine below_set ?_ GE537.out | refine below_set ?_ GE541.out) | exact HB.out)) hb); have n7_ := Aside0.mk (hbox); have n8_ := Aside0.mk ((by rw [hg]; exact (below_size (by repeat (first | (with_reducible first | exact HB.out | apply below_alloc | apply pw_below_drewN | apply below_drew1 | refine below_set ?_ GE490.out | refine below_set ?_ GE491.out | refine below_set ?_ GE496.out | refine below_set ?_ GE497.out | refine below_set ?_ GE537.out | refine below_set ?_ GE541.out) | exact HB.out))) : w.heap.size ≤ gb545)); have n9_ := Aside0.mk ((by rw [hg]; exact (below_size (by repeat (first | (with_reducible first | exact HB.out | apply below_alloc | apply pw_below_drewN | apply below_drew1 | refine below_set ?_ GE490.out | refine below_set ?_ GE491.out | refine below_set ?_ GE496.out | refine below_set ?_ GE497.out | refine below_set ?_ GE537.out | refine below_set ?_ GE541.out) | exact HB.out))) : w.heap.size ≤ gb545)); have n10_ := Aside0.mk ((by rw [hg]; exact Nat.ne_of_lt (blk_lt (g := gb490) (o := .cells #[.int .u64 t486, .int .u64 t487] 24 (0, 0)) (by (with_reducible repeat (first | refine blk_drewN ?_ _ | refine blk_drew ?_ | refine blk_alloc ?_ _)); exact BK490.out)) : gb490 ≠ gb545)); have n11_ := Aside0.mk ((by rw [hg]; exact Nat.ne_of_gt (blk_lt (g := gb490) (o := .cells #[.int .u64 t486, .int .u64 t487] 24 (0, 0)) (by (with_reducible repeat (first | refine blk_drewN ?_ _ | refine blk_drew ?_ | refine blk_alloc ?_ _)); exact BK490.out)) : gb545 ≠ gb490)); have n12_ := Aside0.mk ((by rw [hg]; exact Nat.ne_of_lt (blk_lt (g := gb491) (o := .cells #[.int .u64 t488, .int .u64 t489] 24 (0, 0)) (by (with_reducible repeat (first | refine blk_drewN ?_ _ | refine blk_drew ?_ | refine blk_alloc ?_ _)); exact BK491.out)) : gb491 ≠ gb545)); have n13_ := Aside0.mk ((by rw [hg]; exact Nat.ne_of_gt (blk_lt (g := gb491) (o := .cells #[.int .u64 t488, .int .u64 t489] 24 (0, 0)) (by (with_reducible repeat (first | refine blk_drewN ?_ _ | refine blk_drew ?_ | refine blk_alloc ?_ _)); exact BK491.out)) : gb545 ≠ gb491)); have n14_ := Aside0.mk ((by rw [hg]; exact Nat.ne_of_lt (blk_lt (g := gb496) (o := .cells #[.int .u64 t492, .int .u64 t493] 24 (0, 0)) (by (with_reducible repeat (first | refine blk_drewN ?_ _ | refine blk_drew ?_ | refine blk_alloc ?_ _)); exact BK496.out)) : gb496 ≠ gb545)); have n15_ := Aside0.mk ((by rw [hg]; exact Nat.ne_of_gt (blk_lt (g := gb496) (o := .cells #[.int .u64 t492, .int .u64 t493] 24 (0, 0)) (by (with_reducible repeat (first | refine blk_drewN ?_ _ | refine blk_drew ?_ | refine blk_alloc ?_ _)); exact BK496.out)) : gb545 ≠ gb496)); have n16_ := Aside0.mk ((by rw [hg]; exact Nat.ne_of_lt (blk_lt (g := gb497) (o := .cells #[.int .u64 t494, .int .u64 t495] 24 (0, 0)) (by (with_reducible repeat (first | refine blk_drewN ?_ _ | refine blk_drew ?_ | refine blk_alloc ?_ _)); exact BK497.out)) : gb497 ≠ gb545)); have n17_ := Aside0.mk ((by rw [hg]; exact Nat.ne_of_gt (blk_lt (g := gb497) (o := .cells #[.int .u64 t494, .int .u64 t495] 24 (0, 0)) (by (with_reducible repeat (first | refine blk_drewN ?_ _ | refine blk_drew ?_ | refine blk_alloc ?_ _)); exact BK497.out)) : gb545 ≠ gb497)); have n18_ := Aside0.mk ((by rw [hg]; exact Nat.ne_of_lt (blk_lt (g := gb537) (o := .cells #[.int .u64 t534, .int .u64 t535] 24 (0, 0)) (by (with_reducible repeat (first | refine blk_drewN ?_ _ | refine blk_drew ?_ | refine blk_alloc ?_ _)); exact BK537.out)) : gb537 ≠ gb545)); have n19_ := Aside0.mk ((by rw [hg]; exact Nat.ne_of_gt (blk_lt (g := gb537) (o := .cells #[.int .u64 t534, .int .u64 t535] 24 (0, 0)) (by (with_reducible repeat (first | refine blk_drewN ?_ _ | refine blk_drew ?_ | refine blk_alloc ?_ _)); exact BK537.out)) : gb545 ≠ gb537)); have n20_ := Aside0.mk ((by rw [hg]; exact Nat.ne_of_lt (blk_lt (g := gb541) (o := .cells #[.int .u64 t538, .int .u64 t539] 24 (0, 0)) (by (with_reducible repeat (first | refine blk_drewN ?_ _ | refine blk_drew ?_ | refine blk_alloc ?_ _)); exact BK541.out)) : gb541 ≠ gb545)); have n21_ := Aside0.mk ((by rw [hg]; exact Nat.ne_of_gt (blk_lt (g := gb541) (o := .cells #[.int .u64 t538, .int .u64 t539] 24 (0, 0)) (by (with_reducible repeat (first | refine blk_drewN ?_ _ | refine blk_drew ?_ | refine blk_alloc ?_ _)); exact BK541.out)) : gb545 ≠ gb541)); clear BK490; clear BK491; clear BK496; clear BK497; clear BK537; clear BK541; clear HB; have BK490 := n0_; have BK491 := n1_; have BK496 := n2_; have BK497 := n3_; have BK537 := n4_; have BK541 := n5_; have HB := n6_; have BK545 := n7_; have GW545 := n8_; have GE545 := n9_; have NB490_545 := n10_; have NB545_490 := n11_; have NB491_545 := n12_; have NB545_491 := n13_; have NB496_545 := n14_; have NB545_496 := n15_; have NB497_545 := n16_; have NB545_497 := n17_; have NB537_545 := n18_; have NB545_537 := n19_; have NB541_545 := n20_; have NB545_541 := n21_; clear n0_ n1_ n2_ n3_ n4_ n5_ n6_ n7_ n8_ n9_ n10_ n11_ n12_ n13_ n14_ n15_ n16_ n17_ n18_ n19_ n20_ n21_; clear hb hbox hg; have hnb179 := NB545_490.out; have hnc179 := NB490_545.out; have hnb180 := NB545_491.out; have hnc180 := NB491_545.out; have hnb181 := NB545_496.out; have hnc181 := NB496_545.out; have hnb182 := NB545_497.out; have hnc182 := NB497_545.out; have hnb183 := NB545_537.out; have hnc183 := NB537_545.out; have hnb184 := NB545_541.out; have hnc184 := NB541_545.out; have hcz185_0 : w178.cell? ⟨gb545, 0, none⟩ = some (.int .u64 0) := (blk_cell BK545.out 0).trans rfl; have hcz185_1 : w178.cell? ⟨gb545, 1, none⟩ = some (.int .u64 0) := (blk_cell BK545.out 1).trans rfl; have hfz185_0 := blk_frozen BK545.out 0; have hfz185_1 := blk_frozen BK545.out 1; have hcz186_0 : w178.cell? ⟨gb537, 0, none⟩ = some (.int .u64 t534) := (blk_cell BK537.out 0).trans rfl; have hcz186_1 : w178.cell? ⟨gb537, 1, none⟩ = some (.int .u64 t535) := (blk_cell BK537.out 1).trans rfl; have hfz186_0 := blk_frozen BK537.out 0; have hfz186_1 := blk_frozen BK537.out 1; have hcz187_0 : w178.cell? ⟨gb541, 0, none⟩ = some (.int .u64 t538) := (blk_cell BK541.out 0).trans rfl; have hcz187_1 : w178.cell? ⟨gb541, 1, none⟩ = some (.int .u64 t539) := (blk_cell BK541.out 1).trans rfl; have hfz187_0 := blk_frozen BK541.out 0; have hfz187_1 := blk_frozen BK541.out 1; have hcz188_0 : w178.cell? ⟨gb490, 0, none⟩ = some (.int .u64 t486) := (blk_cell BK490.out 0).trans rfl; have hcz188_1 : w178.cell? ⟨gb490, 1, none⟩ = some (.int .u64 t487) := (blk_cell BK490.out 1).trans rfl; have hfz188_0 := blk_frozen BK490.out 0; have hfz188_1 := blk_frozen BK490.out 1) | (go_at_call 24; (with_reducible refine (wardenlaw03_works.calls kj81 t546 _ hr_ A151.out).mono ?_); rintro e w189 ⟨rfl, hb⟩; have n0_ := Aside0.mk (blk_below (g := gb490) (o := .cells #[.int .u64 t486, .int .u64 t487] 24 (0, 0)) (by (with_reducible repeat (first | refine blk_drewN ?_ _ | refine blk_drew ?_ | refine blk_alloc ?_ _)); refine blk_far ?_ NB490_545.out _; (with_reducible repeat (first | refine blk_drewN ?_ _ | refine blk_drew ?_ | refine blk_alloc ?_ _)); refine blk_far ?_ NB490_545.out _; (with_reducible repeat (first | refine blk_drewN ?_ _ | refine blk_drew ?_ | refine blk_alloc ?_ _)); exact BK490.out) hb); have n1_ := Aside0.mk (blk_below (g := gb491) (o := .cells #[.int .u64 t488, .int .u64 t489] 24 (0, 0)) (by (with_reducible repeat (first | refine blk_drewN ?_ _ | refine blk_drew ?_ | refine blk_alloc ?_ _)); refine blk_far ?_ NB491_545.out _; (with_reducible repeat (first | refine blk_drewN ?_ _ | refine blk_drew ?_ | refine blk_alloc ?_ _)); refine blk_far ?_ NB491_545.out _; (with_reducible repeat (first | refine blk_drewN ?_ _ | refine blk_drew ?_ | refine blk_alloc ?_ _)); exact BK491.out) hb); have n2_ := Aside0.mk (blk_below (g := gb496) (o := .cells #[.int .u64 t492, .int .u64 t493] 24 (0, 0)) (by (with_reducible repeat (first | refine blk_drewN ?_ _ | refine blk_drew ?_ | refine blk_alloc ?_ _)); refine blk_far ?_ NB496_545.out _; (with_reducible repeat (first | refine blk_drewN ?_ _ | refine blk_drew ?_ | refine blk_alloc ?_ _)); refine blk_far ?_ NB496_545.out _; (with_reducible repeat (first | refine blk_drewN ?_ _ | refine blk_drew ?_ | refine blk_alloc ?_ _)); exact BK496.out) hb); have n3_ := Aside0.mk (blk_below (g := gb497) (o := .cells #[.int .u64 t494, .int .u64 t495] 24 (0, 0)) (by (with_reducible repeat (first | refine blk_drewN ?_ _ | refine blk_drew ?_ | refine blk_alloc ?_ _)); refine blk_far ?_ NB497_545.out _; (with_reducible repeat (first | refine blk_drewN ?_ _ | refine blk_drew ?_ | refine blk_alloc ?_ _)); refine blk_far ?_ NB497_545.out _; (with_reducible repeat (first | refine blk_drewN ?_ _ | refine blk_drew ?_ | refine blk_alloc ?_ _)); exact BK497.out) hb); have n4_ := Aside0.mk (blk_below (g := gb537) (o := .cells #[.int .u64 t534, .int .u64 t535] 24 (0, 0)) (by (with_reducible repeat (first | refine blk_drewN ?_ _ | refine blk_drew ?_ | refine blk_alloc ?_ _)); refine blk_far ?_ NB537_545.out _; (with_reducible repeat (first | refine blk_drewN ?_ _ | refine blk_drew ?_ | refine blk_alloc ?_ _)); refine blk_far ?_ NB537_545.out _; (with_reducible repeat (first | refine blk_drewN ?_ _ | refine blk_drew ?_ | refine blk_alloc ?_ _)); exact BK537.out) hb); have n5_ := Aside0.mk (blk_below (g := gb541) (o := .cells #[.int .u64 t538, .int .u64 t539] 24 (0, 0)) (by (with_reducible repeat (first | refine blk_drewN ?_ _ | refine blk_drew ?_ | refine blk_alloc ?_ _)); refine blk_far ?_ NB541_545.out _; (with_reducible repeat (first | refine blk_drewN ?_ _ | refine blk_drew ?_ | refine blk_alloc ?_ _)); refine blk_far ?_ NB541_545.out _; (with_reducible repeat (first | refine blk_drewN ?_ _ | refine blk_drew ?_ | refine blk_alloc ?_ _)); exact BK541.out) hb); have n6_ := Aside0.mk (blk_below (g := gb545) (o := .cells #[.int .u64 t542, .int .u64 t543] 24 (0, 0)) (by (with_reducible repeat (first | refine blk_drewN ?_ _ | refine blk_drew ?_ | refine blk_alloc ?_ _)); refine blk_put (cs := #[.int .u64 t542, .int .u64 0]) ?_ 1 _ rfl; (with_reducible repeat (first | refine blk_drewN ?_ _ | refine blk_drew ?_ | refine blk_alloc ?_ _)); refine blk_put (cs := #[.int .u64 0, .int .u64 0]) ?_ 0 _ rfl; (with_reducible repeat (first | refine blk_drewN ?_ _ | refine blk_drew ?_ | refine blk_alloc ?_ _)); exact BK545.out) hb); have n7_ := Aside0.mk (below_step (by repeat (first | (with_reducible first | exact HB.out | apply below_alloc | apply pw_below_drewN | apply below_drew1 | refine below_set ?_ GE490.out | refine below_set ?_ GE491.out | refine below_set ?_ GE496.out | refine below_set ?_ GE497.out | refine below_set ?_ GE537.out | refine below_set ?_ GE541.out | refine below_set ?_ GE545.out) | exact HB.out)) hb); clear BK490; clear BK491; clear BK496; clear BK497; clear BK537; clear BK541; clear BK545; clear HB; have BK490 := n0_; have BK491 := n1_; have BK496 := n2_; have BK497 := n3_; have BK537 := n4_; have BK541 := n5_; have BK545 := n6_; have HB := n7_; clear n0_ n1_ n2_ n3_ n4_ n5_ n6_ n7_; (try clear hb); (try clear hb2); (try clear hk); (try clear hi)))
                      go_ret
                      exact ⟨by first | rfl | (simp [errW_none, errW_some] <;> rfl) | (simp [*, errW_none, errW_some] <;> rfl), by repeat (first | (with_reducible first | exact HB.out | apply below_alloc | apply pw_below_drewN | apply below_drew1 | refine below_set ?_ GE490.out | refine below_set ?_ GE491.out | refine below_set ?_ GE496.out | refine below_set ?_ GE497.out | refine below_set ?_ GE537.out | refine below_set ?_ GE541.out | refine below_set ?_ GE545.out) | exact HB.out)⟩
                    · replace c150 := Bool.eq_false_iff.mpr c150
                      subst c150
                      have H1 : (some false) = some r := by rw [if_neg (show ¬ (false = true) by decide)] at H; exact H
                      clear H
                      have H := H1
                      clear H1
                      exact absurd ((Option.some.inj H).trans hr_.out) (by decide)
                  · rw [if_neg c149] at H
                    have c149b0 : (t542 == t486 && (t543 == t487)) = false := by simpa using c149
                    (try (have c149b1 : decide (t542 = t486 && (t543 == t487)) = false := by simpa using c149))
                    (try (have c149b2 : (t542 == t486 && (t543 == t487)) = false := by simpa using c149))
                    (try (have c149b3 : ¬ (t542 = t486 && (t543 == t487)) := by simpa using c149))
                    clear c149
                    exact absurd ((Option.some.inj H).trans hr_.out) (by decide)
                · rw [if_neg c148] at H
                  have c148b0 : (t536 == t540) = false := by simpa using c148
                  (try (have c148b1 : decide (t536 = t540) = false := by simpa using c148))
                  (try (have c148b2 : (t536 == t540) = false := by simpa using c148))
                  (try (have c148b3 : ¬ (t536 = t540) := by simpa using c148))
                  clear c148
                  exact absurd ((Option.some.inj H).trans hr_.out) (by decide)
              · rw [if_neg c147] at H
                have c147b0 : (t534 == t538 && (t535 == t539)) = false := by simpa using c147
                (try (have c147b1 : decide (t534 = t538 && (t535 == t539)) = false := by simpa using c147))
                (try (have c147b2 : (t534 == t538 && (t535 == t539)) = false := by simpa using c147))
                (try (have c147b3 : ¬ (t534 = t538 && (t535 == t539)) := by simpa using c147))
                clear c147
                exact absurd ((Option.some.inj H).trans hr_.out) (by decide)
            · replace c146 := Bool.eq_false_iff.mpr c146
              subst c146
              have H1 : (some false) = some r := by rw [if_neg (show ¬ (false = true) by decide)] at H; exact H
              clear H
              have H := H1
              clear H1
              exact absurd ((Option.some.inj H).trans hr_.out) (by decide)
          · replace c145 := Bool.eq_false_iff.mpr c145
            subst c145
            have H1 : (some false) = some r := by rw [if_neg (show ¬ (false = true) by decide)] at H; exact H
            clear H
            have H := H1
            clear H1
            exact absurd ((Option.some.inj H).trans hr_.out) (by decide)
/-- THE ONE PURE STATEMENT of wardenlaw03_TnumSides: yours. -/
def wardenlaw03_TnumSides.Pure : Prop := ∀ (a0 : Int) (a1 : Int) (a2 : Int) (a3 : Int), (Lit.int .u64 a0).wf = true → (Lit.int .u64 a1).wf = true → (Lit.int .u64 a2).wf = true → (Lit.int .u64 a3).wf = true → ∃ k, wardenlaw03_TnumSides.f k a0 a1 a2 a3 = some true
theorem wardenlaw03_TnumSides.walk (P : wardenlaw03_TnumSides.Pure) (a0 : Int) (a1 : Int) (a2 : Int) (a3 : Int) (w : World) (w0 : (Lit.int .u64 a0).wf = true) (w1 : (Lit.int .u64 a1).wf = true) (w2 : (Lit.int .u64 a2).wf = true) (w3 : (Lit.int .u64 a3).wf = true) :
    Calls Try.prog 7 #[.int .u64 a0, .int .u64 a1, .int .u64 a2, .int .u64 a3] w fun e w' => e = .returned (.bool true) ∧ Below w.heap.size w w' := by
  obtain ⟨k, h⟩ := P a0 a1 a2 a3 w0 w1 w2 w3
  refine (wardenlaw03_TnumSides.calls k a0 a1 a2 a3 true w ⟨rfl⟩ h).mono ?_
  rintro e w' ⟨rfl, hd⟩
  exact ⟨rfl, hd⟩

end Go.Proofs.Ytnljfoaacngamaa.PD
