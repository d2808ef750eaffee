-- turned from the kit's print
import Derived.Test.YtnljfoaacngamaaPDx0
import Derived.Test.YtnljfoaacngamaaOnly
import Derived.Test.YtnljfoaacngamaaShort
import Derived.Test.YtnljfoaacngamaaPDx1
import Derived.Test.YtnljfoaacngamaaPDx2
import Derived.Test.YtnljfoaacngamaaPDx4
import Derived.Test.YtnljfoaacngamaaPDx5
import Derived.Test.YtnljfoaacngamaaPDx7
import Derived.Test.YtnljfoaacngamaaPDx8
import Derived.Test.YtnljfoaacngamaaPDx10
import Derived.Test.YtnljfoaacngamaaPDx12
import Derived.Test.YtnljfoaacngamaaPDx13
import Derived.Test.YtnljfoaacngamaaPDx15
namespace Go.Proofs.Ytnljfoaacngamaa.PD
open Go.RowKit Go.Proofs.YtnljfoaacngamaaW.PrintWords Go.Proofs.YtnljfoaacngamaaW.PrintLast Go.Proofs.YtnljfoaacngamaaW.PrintMore
attribute [local go_sem] max2_int min2_int max_two min_two max_three min_three max_four min_four   -- for this text's walks alone
set_option linter.unusedVariables false
set_option linter.unusedSimpArgs false

attribute [local go_sem high] eqA24
/-! ### wardenlaw03_TnumOrder: function 6 -/
mutual
def wardenlaw03_TnumOrder.j0 : Nat → Int → Int → Int → Bool → Int → Int → Int → Int → Int → Int → Int → Int → Option (Bool)
 | 0, _, _, _, _, _, _, _, _, _, _, _, _ => none
 | k + 1, x0, x2, x6, x51, x418000, x418001, x419000, x419001, x426000, x426001, x427000, x427001 => if x51 = true then (some false) else ((tnum_Add.f x426000 x426001 x427000 x427001).bind fun bt429 => ((tnum_Add.f x418000 x418001 x419000 x419001).bind fun bt431 => ((tnum_In.f bt429.1 bt429.2 bt431.1 bt431.2).bind fun t433 => (if t433 = true then ((tnum_Sub.f x426000 x426001 x427000 x427001).bind fun bt434 => ((tnum_Sub.f x418000 x418001 x419000 x419001).bind fun bt436 => ((tnum_In.f bt434.1 bt434.2 bt436.1 bt436.2).bind fun t438 => (if t438 = true then ((tnum_And.f x426000 x426001 x427000 x427001).bind fun bt439 => ((tnum_And.f x418000 x418001 x419000 x419001).bind fun bt441 => ((tnum_In.f bt439.1 bt439.2 bt441.1 bt441.2).bind fun t443 => (if t443 = true then ((tnum_Or.f x426000 x426001 x427000 x427001).bind fun bt444 => ((tnum_Or.f x418000 x418001 x419000 x419001).bind fun bt446 => ((tnum_In.f bt444.1 bt444.2 bt446.1 bt446.2).bind fun t448 => (if t448 = true then ((tnum_Xor.f x426000 x426001 x427000 x427001).bind fun bt449 => ((tnum_Xor.f x418000 x418001 x419000 x419001).bind fun bt451 => ((tnum_In.f bt449.1 bt449.2 bt451.1 bt451.2).bind fun t453 => (wardenlaw03_TnumOrder.j1 k x0 x2 (IntKind.u64.wrap (x6)) (!t453) x418000 x418001 x426000 x426001 x427000 x427001)))) else (wardenlaw03_TnumOrder.j1 k x0 x2 (IntKind.u64.wrap (x6)) true x418000 x418001 x426000 x426001 x427000 x427001))))) else (wardenlaw03_TnumOrder.j1 k x0 x2 (IntKind.u64.wrap (x6)) true x418000 x418001 x426000 x426001 x427000 x427001))))) else (wardenlaw03_TnumOrder.j1 k x0 x2 (IntKind.u64.wrap (x6)) true x418000 x418001 x426000 x426001 x427000 x427001))))) else (wardenlaw03_TnumOrder.j1 k x0 x2 (IntKind.u64.wrap (x6)) true x418000 x418001 x426000 x426001 x427000 x427001)))))
def wardenlaw03_TnumOrder.j1 : Nat → Int → Int → Int → Bool → Int → Int → Int → Int → Int → Int → Option (Bool)
 | 0, _, _, _, _, _, _, _, _, _, _ => none
 | k + 1, x0, x2, x19, x101, x418000, x418001, x426000, x426001, x427000, x427001 => if x101 = true then (some false) else ((tnum_Shl.f x426000 x426001 x19).bind fun bt454 => ((tnum_Shl.f x418000 x418001 x19).bind fun bt456 => ((tnum_In.f bt454.1 bt454.2 bt456.1 bt456.2).bind fun t458 => (if t458 = true then ((tnum_Sar.f x426000 x426001 x19).bind fun bt459 => ((tnum_Sar.f x418000 x418001 x19).bind fun bt461 => ((tnum_In.f bt459.1 bt459.2 bt461.1 bt461.2).bind fun t463 => (if t463 = true then ((tnum_Join.f x426000 x426001 x427000 x427001).bind fun bt464 => ((tnum_In.f x426000 x426001 bt464.1 bt464.2).bind fun t466 => (wardenlaw03_TnumOrder.j2 k x0 x2 (!t466)))) else (wardenlaw03_TnumOrder.j2 k x0 x2 true))))) else (wardenlaw03_TnumOrder.j2 k x0 x2 true)))))
def wardenlaw03_TnumOrder.j2 : Nat → Int → Int → Bool → Option (Bool)
 | 0, _, _, _ => none
 | k + 1, x0, x2, x127 => if x127 = true then (some false) else ((tnum_Const.f x0).bind fun bt467 => ((tnum_Const.f x2).bind fun bt469 => ((tnum_Mul.f k bt467.1 bt467.2 bt469.1 bt469.2).bind fun bt473 => ((tnum_Const.f (IntKind.u64.wrap (x0 * x2))).bind fun bt475 => (if (bt473.1 == bt475.1 && (bt473.2 == bt475.2)) = true then ((tnum_Sub.f bt467.1 bt467.2 bt469.1 bt469.2).bind fun bt477 => ((tnum_Const.f (IntKind.u64.wrap (x0 - x2))).bind fun bt479 => (if (bt477.1 == bt479.1 && (bt477.2 == bt479.2)) = true then ((tnum_Add.f bt467.1 bt467.2 bt469.1 bt469.2).bind fun bt481 => ((tnum_Const.f (IntKind.u64.wrap (x0 + x2))).bind fun bt483 => (if (bt481.1 == bt483.1 && (bt481.2 == bt483.2)) = true then ((wardenlaw03_works.f k).bind fun t485 => (some t485)) else (some false)))) else (some false)))) else (some false))))))
end
def wardenlaw03_TnumOrder.f (k : Nat) (a0 : Int) (a1 : Int) (a2 : Int) (a3 : Int) (a4 : Int) (a5 : Int) (a6 : Int) : Option (Bool) := (wardenlaw03_of.f a0 a1).bind fun bt413 => ((wardenlaw03_of.f a2 a3).bind fun bt415 => ((wardenlaw03_some.f bt413.1 bt413.2 a4).bind fun t419 => ((wardenlaw03_of.f t419 (Go.bits .and .u64 a1 a4)).bind fun bt420 => ((wardenlaw03_some.f bt415.1 bt415.2 a5).bind fun t422 => ((wardenlaw03_of.f t422 (Go.bits .and .u64 a3 a5)).bind fun bt423 => ((tnum_In.f bt420.1 bt420.2 bt413.1 bt413.2).bind fun t427 => (if t427 = true then ((tnum_In.f bt423.1 bt423.2 bt415.1 bt415.2).bind fun t428 => (wardenlaw03_TnumOrder.j0 k a0 a2 a6 (!t428) bt413.1 bt413.2 bt415.1 bt415.2 bt420.1 bt420.2 bt423.1 bt423.2)) else (wardenlaw03_TnumOrder.j0 k a0 a2 a6 true bt413.1 bt413.2 bt415.1 bt415.2 bt420.1 bt420.2 bt423.1 bt423.2))))))))
theorem wardenlaw03_TnumOrder.mono_l : ∀ k, (∀ y0 y1 y2 y3 y4 y5 y6 y7 y8 y9 y10 y11, LeO (wardenlaw03_TnumOrder.j0 k y0 y1 y2 y3 y4 y5 y6 y7 y8 y9 y10 y11) (wardenlaw03_TnumOrder.j0 (k + 1) y0 y1 y2 y3 y4 y5 y6 y7 y8 y9 y10 y11)) ∧ (∀ y0 y1 y2 y3 y4 y5 y6 y7 y8 y9, LeO (wardenlaw03_TnumOrder.j1 k y0 y1 y2 y3 y4 y5 y6 y7 y8 y9) (wardenlaw03_TnumOrder.j1 (k + 1) y0 y1 y2 y3 y4 y5 y6 y7 y8 y9)) ∧ (∀ y0 y1 y2, LeO (wardenlaw03_TnumOrder.j2 k y0 y1 y2) (wardenlaw03_TnumOrder.j2 (k + 1) y0 y1 y2))
 | 0 => ⟨fun _ _ _ _ _ _ _ _ _ _ _ _ r h => by simp [wardenlaw03_TnumOrder.j0] at h, fun _ _ _ _ _ _ _ _ _ _ r h => by simp [wardenlaw03_TnumOrder.j1] at h, fun _ _ _ r h => by simp [wardenlaw03_TnumOrder.j2] at h⟩
 | k + 1 => by
  obtain ⟨ih0, ih1, ih2⟩ := wardenlaw03_TnumOrder.mono_l k
  refine ⟨?_, ?_, ?_⟩
  ·intro y0 y1 y2 y3 y4 y5 y6 y7 y8 y9 y10 y11
   unfold wardenlaw03_TnumOrder.j0
   repeat' first
   | (with_reducible exact ih0 _ _ _ _ _ _ _ _ _ _ _ _)
   | (with_reducible exact ih1 _ _ _ _ _ _ _ _ _ _)
   | (with_reducible exact ih2 _ _ _)
   | (with_reducible exact tnum_Mul.mono _ _ _ _ _)
   | (with_reducible exact wardenlaw03_works.mono _)
   | (with_reducible exact LeO.refl _)
   | (with_reducible exact LeO.none _)
   | (with_reducible refine LeO.ite ?_ ?_)
   | (with_reducible refine LeO.bind ?_ (fun _ => ?_))
   | exact ih0 _ _ _ _ _ _ _ _ _ _ _ _
   | exact ih1 _ _ _ _ _ _ _ _ _ _
   | exact ih2 _ _ _
   | exact tnum_Mul.mono _ _ _ _ _
   | exact wardenlaw03_works.mono _
   | exact LeO.none _
   | refine LeO.ite ?_ ?_
   | refine LeO.bind ?_ (fun _ => ?_)
  ·intro y0 y1 y2 y3 y4 y5 y6 y7 y8 y9
   unfold wardenlaw03_TnumOrder.j1
   repeat' first
   | (with_reducible exact ih0 _ _ _ _ _ _ _ _ _ _ _ _)
   | (with_reducible exact ih1 _ _ _ _ _ _ _ _ _ _)
   | (with_reducible exact ih2 _ _ _)
   | (with_reducible exact tnum_Mul.mono _ _ _ _ _)
   | (with_reducible exact wardenlaw03_works.mono _)
   | (with_reducible exact LeO.refl _)
   | (with_reducible exact LeO.none _)
   | (with_reducible refine LeO.ite ?_ ?_)
   | (with_reducible refine LeO.bind ?_ (fun _ => ?_))
   | exact ih0 _ _ _ _ _ _ _ _ _ _ _ _
   | exact ih1 _ _ _ _ _ _ _ _ _ _
   | exact ih2 _ _ _
   | exact tnum_Mul.mono _ _ _ _ _
   | exact wardenlaw03_works.mono _
   | exact LeO.none _
   | refine LeO.ite ?_ ?_
   | refine LeO.bind ?_ (fun _ => ?_)
  ·intro y0 y1 y2
   unfold wardenlaw03_TnumOrder.j2
   repeat' first
   | (with_reducible exact ih0 _ _ _ _ _ _ _ _ _ _ _ _)
   | (with_reducible exact ih1 _ _ _ _ _ _ _ _ _ _)
   | (with_reducible exact ih2 _ _ _)
   | (with_reducible exact tnum_Mul.mono _ _ _ _ _)
   | (with_reducible exact wardenlaw03_works.mono _)
   | (with_reducible exact LeO.refl _)
   | (with_reducible exact LeO.none _)
   | (with_reducible refine LeO.ite ?_ ?_)
   | (with_reducible refine LeO.bind ?_ (fun _ => ?_))
   | exact ih0 _ _ _ _ _ _ _ _ _ _ _ _
   | exact ih1 _ _ _ _ _ _ _ _ _ _
   | exact ih2 _ _ _
   | exact tnum_Mul.mono _ _ _ _ _
   | exact wardenlaw03_works.mono _
   | exact LeO.none _
   | refine LeO.ite ?_ ?_
   | refine LeO.bind ?_ (fun _ => ?_)
theorem wardenlaw03_TnumOrder.mono : ∀ a0 a1 a2 a3 a4 a5 a6 k, LeO (wardenlaw03_TnumOrder.f k a0 a1 a2 a3 a4 a5 a6) (wardenlaw03_TnumOrder.f (k + 1) a0 a1 a2 a3 a4 a5 a6) := by
 intro a0 a1 a2 a3 a4 a5 a6 k
 obtain ⟨ih0, ih1, ih2⟩ := wardenlaw03_TnumOrder.mono_l k
 unfold wardenlaw03_TnumOrder.f
 repeat' first
   | (with_reducible exact ih0 _ _ _ _ _ _ _ _ _ _ _ _)
   | (with_reducible exact ih1 _ _ _ _ _ _ _ _ _ _)
   | (with_reducible exact ih2 _ _ _)
   | (with_reducible exact tnum_Mul.mono _ _ _ _ _)
   | (with_reducible exact wardenlaw03_works.mono _)
   | (with_reducible exact LeO.refl _)
   | (with_reducible exact LeO.none _)
   | (with_reducible refine LeO.ite ?_ ?_)
   | (with_reducible refine LeO.bind ?_ (fun _ => ?_))
   | exact ih0 _ _ _ _ _ _ _ _ _ _ _ _
   | exact ih1 _ _ _ _ _ _ _ _ _ _
   | exact ih2 _ _ _
   | exact tnum_Mul.mono _ _ _ _ _
   | exact wardenlaw03_works.mono _
   | exact LeO.none _
   | refine LeO.ite ?_ ?_
   | refine LeO.bind ?_ (fun _ => ?_)
def wardenlaw03_TnumOrder.T2 : Bool × List (List Nat × List Nat) := (true, [([], []), ([], []), ([0, 1], [0, 1]), ([], []), ([], []), ([3, 4], [3, 4]), ([2, 5, 2], [2, 5]), ([], []), ([], []), ([7, 8, 6], [7, 8]), ([], []), ([], []), ([10, 11], [10, 11]), ([9, 12, 9], [9, 12]), ([], []), ([], []), ([14, 6, 13, 0, 1, 2, 3, 4, 5, 6, 14, 15], [6, 14]), ([15, 13, 16, 0, 1, 2, 3, 4, 5, 6, 7, 8, 9, 10, 11, 12, 13, 14, 15, 16], [13, 15])])
def wardenlaw03_TnumOrder.B2 : List Nat := [0, 0, 3, 0, 0, 24, 63, 0, 0, 511, 0, 0, 3072, 8191, 0, 0, 65535, 131071]
theorem wardenlaw03_TnumOrder.tab2 : rtab .any (opsOf Try.f6 2) = wardenlaw03_TnumOrder.T2 := by kernel_rfl
theorem wardenlaw03_TnumOrder.bits2 : waitsOk wardenlaw03_TnumOrder.T2.2 wardenlaw03_TnumOrder.B2 = true := by kernel_rfl
def wardenlaw03_TnumOrder.T6 : Bool × List (List Nat × List Nat) := (true, [([], []), ([], []), ([0, 1], [0, 1]), ([], []), ([], []), ([3, 4, 2], [3, 4]), ([2, 5, 5], [2, 5]), ([6], [6]), ([7, 6], [7]), ([8], [8]), ([8], [8]), ([9, 10, 8, 8], [8, 9, 10]), ([8], [8]), ([8], [8]), ([12, 13, 11, 8], [8, 12, 13]), ([11, 14, 14, 8], [8, 11, 14]), ([15, 8], [8, 15]), ([8, 16], [8, 16]), ([17, 15], [17]), ([18], [18]), ([18], [18]), ([19, 20, 18, 18], [18, 19, 20]), ([18], [18]), ([18], [18]), ([22, 23, 21, 18], [18, 22, 23]), ([21, 24, 24, 18], [18, 21, 24]), ([25, 18], [18, 25]), ([18, 26], [18, 26]), ([27, 25], [27]), ([28], [28]), ([28], [28]), ([29, 30, 28, 28], [28, 29, 30]), ([28], [28]), ([28], [28]), ([32, 33, 31, 28], [28, 32, 33]), ([31, 34, 34, 28], [28, 31, 34]), ([35, 28], [28, 35]), ([28, 36], [28, 36]), ([37, 35], [37]), ([38], [38]), ([38], [38]), ([39, 40, 38, 38], [38, 39, 40]), ([38], [38]), ([38], [38]), ([42, 43, 41, 38], [38, 42, 43]), ([41, 44, 44, 38], [38, 41, 44]), ([45, 38], [38, 45]), ([38, 46], [38, 46])])
def wardenlaw03_TnumOrder.B6 : List Nat := [0, 0, 3, 0, 0, 31, 63, 127, 255, 511, 511, 2047, 511, 511, 16383, 32767, 65535, 131071, 262143, 524287, 524287, 2097151, 524287, 524287, 16777215, 33554431, 67108863, 134217727, 268435455, 536870911, 536870911, 2147483647, 536870911, 536870911, 17179869183, 34359738367, 68719476735, 137438953471, 274877906943, 549755813887, 549755813887, 2199023255551, 549755813887, 549755813887, 17592186044415, 35184372088831, 70368744177663, 140737488355327]
theorem wardenlaw03_TnumOrder.tab6 : rtab .any (opsOf Try.f6 6) = wardenlaw03_TnumOrder.T6 := by kernel_rfl
theorem wardenlaw03_TnumOrder.bits6 : waitsOk wardenlaw03_TnumOrder.T6.2 wardenlaw03_TnumOrder.B6 = true := by kernel_rfl
def wardenlaw03_TnumOrder.T8 : Bool × List (List Nat × List Nat) := (true, [([], []), ([], []), ([0, 1], [0, 1]), ([], []), ([], []), ([3, 4, 2], [3, 4]), ([2, 5, 5], [2, 5]), ([6], [6]), ([7, 6], [7]), ([8], [8]), ([8], [8]), ([9, 10, 8, 8], [8, 9, 10]), ([8], [8]), ([8], [8]), ([12, 13, 11, 8], [8, 12, 13]), ([11, 14, 14, 8], [8, 11, 14]), ([15, 8], [8, 15]), ([8, 16], [8, 16]), ([17, 15], [17]), ([18], [18]), ([18], [18]), ([18], [18]), ([20, 21, 18, 18], [18, 20, 21]), ([19, 22, 22, 18], [18, 19, 22]), ([23, 18], [18, 23]), ([18, 24], [18, 24])])
def wardenlaw03_TnumOrder.B8 : List Nat := [0, 0, 3, 0, 0, 31, 63, 127, 255, 511, 511, 2047, 511, 511, 16383, 32767, 65535, 131071, 262143, 524287, 524287, 524287, 3670015, 8388607, 16777215, 33554431]
theorem wardenlaw03_TnumOrder.tab8 : rtab .any (opsOf Try.f6 8) = wardenlaw03_TnumOrder.T8 := by kernel_rfl
theorem wardenlaw03_TnumOrder.bits8 : waitsOk wardenlaw03_TnumOrder.T8.2 wardenlaw03_TnumOrder.B8 = true := by kernel_rfl
theorem wardenlaw03_TnumOrder.j0_no4 : ∀ x0 x1 x2 x3 x5 x6 x7 x8 x9 x10 x11 x12, wardenlaw03_TnumOrder.j0 x0 x1 x2 x3 true x5 x6 x7 x8 x9 x10 x11 x12 ≠ some true := by
 intro x0 x1 x2 x3 x5 x6 x7 x8 x9 x10 x11 x12
 cases x0
 ·exact OnlyF.none
 ·(simp only [wardenlaw03_TnumOrder.j0]; rw [if_pos trivial]; exact OnlyF.no)
theorem wardenlaw03_TnumOrder.j1_no4 : ∀ x0 x1 x2 x3 x5 x6 x7 x8 x9 x10, wardenlaw03_TnumOrder.j1 x0 x1 x2 x3 true x5 x6 x7 x8 x9 x10 ≠ some true := by
 intro x0 x1 x2 x3 x5 x6 x7 x8 x9 x10
 cases x0
 ·exact OnlyF.none
 ·(simp only [wardenlaw03_TnumOrder.j1]; rw [if_pos trivial]; exact OnlyF.no)
theorem wardenlaw03_TnumOrder.j2_no3 : ∀ x0 x1 x2, wardenlaw03_TnumOrder.j2 x0 x1 x2 true ≠ some true := by
 intro x0 x1 x2
 cases x0
 ·exact OnlyF.none
 ·(simp only [wardenlaw03_TnumOrder.j2]; rw [if_pos trivial]; exact OnlyF.no)
set_option maxHeartbeats 8000000 in
set_option maxRecDepth 100000 in
theorem wardenlaw03_TnumOrder.calls (k : Nat) (a0 : Int) (a1 : Int) (a2 : Int) (a3 : Int) (a4 : Int) (a5 : Int) (a6 : Int) (r : Bool) (w : World) (hr_ : Aside0 (r = true)) (h : wardenlaw03_TnumOrder.f k a0 a1 a2 a3 a4 a5 a6 = some r) :
  Calls Try.prog 6 #[.int .u64 a0, .int .u64 a1, .int .u64 a2, .int .u64 a3, .int .u64 a4, .int .u64 a5, .int .u8 a6] w fun e w' => e = .returned (.bool r) ∧ Below w.heap.size w w' := by
 have hu24 := Try.underlying24
 have HB := am (Below.refl w.heap.size w)
 have H : ((wardenlaw03_of.f a0 a1).bind fun bt413 => ((wardenlaw03_of.f a2 a3).bind fun bt415 => ((wardenlaw03_some.f bt413.1 bt413.2 a4).bind fun t419 => ((wardenlaw03_of.f t419 (Go.bits .and .u64 a1 a4)).bind fun bt420 => ((wardenlaw03_some.f bt415.1 bt415.2 a5).bind fun t422 => ((wardenlaw03_of.f t422 (Go.bits .and .u64 a3 a5)).bind fun bt423 => ((tnum_In.f bt420.1 bt420.2 bt413.1 bt413.2).bind fun t427 => (if t427 = true then ((tnum_In.f bt423.1 bt423.2 bt415.1 bt415.2).bind fun t428 => (wardenlaw03_TnumOrder.j0 k a0 a2 a6 (!t428) bt413.1 bt413.2 bt415.1 bt415.2 bt420.1 bt420.2 bt423.1 bt423.2)) else (wardenlaw03_TnumOrder.j0 k a0 a2 a6 true bt413.1 bt413.2 bt415.1 bt415.2 bt420.1 bt420.2 bt423.1 bt423.2))))))))) = some r := h
 clear h
 replace H := Option.bind_eq_some_iff.mp H
 obtain ⟨⟨t413, t414⟩, A80, H⟩ := H
 try dsimp only at H
 have A8 := am A80
 clear A80
 replace H := Option.bind_eq_some_iff.mp H
 obtain ⟨⟨t415, t416⟩, A90, H⟩ := H
 try dsimp only at H
 have A9 := am A90
 clear A90
 replace H := Option.bind_eq_some_iff.mp H
 obtain ⟨t419, A100, H⟩ := H
 try dsimp only at H
 have A10 := am A100
 clear A100
 replace H := Option.bind_eq_some_iff.mp H
 obtain ⟨⟨t420, t421⟩, A110, H⟩ := H
 try dsimp only at H
 have A11 := am A110
 clear A110
 replace H := Option.bind_eq_some_iff.mp H
 obtain ⟨t422, A120, H⟩ := H
 try dsimp only at H
 have A12 := am A120
 clear A120
 replace H := Option.bind_eq_some_iff.mp H
 obtain ⟨⟨t423, t424⟩, A130, H⟩ := H
 try dsimp only at H
 have A13 := am A130
 clear A130
 have HC14 := am H
 clear H
 go_enter Try.func6, Try.ntmps6
 try go_wp2_with (first | ((with_reducible refine gate_callee (f := 9) rfl ?_); refine goesL_ (some 24) rfl rfl Try.func9 (by kernel_rfl) rfl #[.int .u64 a0, .int .u64 a1] rfl (by (try simp only [List.map_toArray, List.map_cons, List.map_nil]); first | done | rfl) ?_; (with_reducible refine (wardenlaw03_of.calls a0 a1 t413 t414 _ A8.out).mono ?_); rintro e w15 ⟨rfl, hb⟩; refine ⟨_, rfl, ?_⟩; have n0_ := am (below_step HB.out hb); clear HB; have HB := n0_; clear n0_; (try clear hb); (try clear hb2); (try clear hk); (try clear hi)) | ((with_reducible refine gate_callee (f := 9) rfl ?_); refine goesL_ (some 27) rfl rfl Try.func9 (by kernel_rfl) rfl #[.int .u64 a2, .int .u64 a3] rfl (by (try simp only [List.map_toArray, List.map_cons, List.map_nil]); first | done | rfl) ?_; (with_reducible refine (wardenlaw03_of.calls a2 a3 t415 t416 _ A9.out).mono ?_); rintro e w16 ⟨rfl, hb⟩; refine ⟨_, rfl, ?_⟩; have n0_ := am (below_step HB.out hb); clear HB; have HB := n0_; clear n0_; (try clear hb); (try clear hb2); (try clear hk); (try clear hi)) | ((with_reducible refine gate_dst (N := 15) rfl ?_); refine box_event ?hg (N := 15) ?hd (cs := #[.int .u64 0, .int .u64 0]) (t := 24) ?hr ?_; (case hd => rfl); (case hg => rfl); (case hr => first | (go_simp; done) | (go_simp; rfl)); intro gb417 hg w17 hbox hb; have n0_ := am (below_step HB.out hb); have n1_ := am (hbox); have n2_ := am ((by rw [hg]; exact (below_size HB.out) : w.heap.size ≤ gb417)); have n3_ := am ((by rw [hg]; exact (below_size HB.out) : w.heap.size ≤ gb417)); clear HB; have HB := n0_; have BK417 := n1_; have GW417 := n2_; have GE417 := n3_; clear n0_ n1_ n2_ n3_; clear hb hbox hg) | ((with_reducible refine gate_dst (N := 16) rfl ?_); refine box_event ?hg (N := 16) ?hd (cs := #[.int .u64 0, .int .u64 0]) (t := 24) ?hr ?_; (case hd => rfl); (case hg => rfl); (case hr => first | (go_simp; done) | (go_simp; rfl)); intro gb418 hg w18 hbox hb; have n0_ := am (blk_below BK417.out hb); have n1_ := am (below_step (by repeat (first | exact HB.out | refine below_set ?_ GE417.out)) hb); have n2_ := am (hbox); have n3_ := am ((by rw [hg]; exact (below_size (by repeat (first | exact HB.out | refine below_set ?_ GE417.out))) : w.heap.size ≤ gb418)); have n4_ := am ((by rw [hg]; exact (below_size (by repeat (first | exact HB.out | refine below_set ?_ GE417.out))) : w.heap.size ≤ gb418)); have n5_ := am ((by rw [hg]; exact Nat.ne_of_lt (blk_lt BK417.out) : gb417 ≠ gb418)); have n6_ := am ((by rw [hg]; exact Nat.ne_of_gt (blk_lt BK417.out) : gb418 ≠ gb417)); clear BK417; clear HB; have BK417 := n0_; have HB := n1_; have BK418 := n2_; have GW418 := n3_; have GE418 := n4_; have NB417_418 := n5_; have NB418_417 := n6_; clear n0_ n1_ n2_ n3_ n4_ n5_ n6_; clear hb hbox hg; have hnb19 := NB417_418.out; have hnc19 := NB418_417.out; have hcz20_0 : w18.cell? ⟨gb417, 0, none⟩ = some (.int .u64 0) := (blk_cell BK417.out 0).trans rfl; have hcz20_1 : w18.cell? ⟨gb417, 1, none⟩ = some (.int .u64 0) := (blk_cell BK417.out 1).trans rfl; have hfz20_0 := blk_frozen BK417.out 0; have hfz20_1 := blk_frozen BK417.out 1; have hcz21_0 : w18.cell? ⟨gb418, 0, none⟩ = some (.int .u64 0) := (blk_cell BK418.out 0).trans rfl; have hcz21_1 : w18.cell? ⟨gb418, 1, none⟩ = some (.int .u64 0) := (blk_cell BK418.out 1).trans rfl; have hfz21_0 := blk_frozen BK418.out 0; have hfz21_1 := blk_frozen BK418.out 1))
 have n0_ : Aside0 (((((w18.setCell ⟨gb417, 0, none⟩ (.int .u64 t413)).setCell ⟨gb417, 1, none⟩ (.int .u64 t414)).setCell ⟨gb418, 0, none⟩ (.int .u64 t415)).setCell ⟨gb418, 1, none⟩ (.int .u64 t416)).heap[gb417]? = some (.cells #[.int .u64 t413, .int .u64 t414] 24 (0, 0))) := ⟨by (with_reducible repeat (first | refine blk_drewN ?_ _ | refine blk_drew ?_ | refine blk_alloc ?_ _)); refine blk_far ?_ NB417_418.out _; (with_reducible repeat (first | refine blk_drewN ?_ _ | refine blk_drew ?_ | refine blk_alloc ?_ _)); refine blk_far ?_ NB417_418.out _; (with_reducible repeat (first | refine blk_drewN ?_ _ | refine blk_drew ?_ | refine blk_alloc ?_ _)); refine blk_put (cs := #[.int .u64 t413, .int .u64 0]) ?_ 1 _ rfl; (with_reducible repeat (first | refine blk_drewN ?_ _ | refine blk_drew ?_ | refine blk_alloc ?_ _)); refine blk_put (cs := #[.int .u64 0, .int .u64 0]) ?_ 0 _ rfl; (with_reducible repeat (first | refine blk_drewN ?_ _ | refine blk_drew ?_ | refine blk_alloc ?_ _)); exact BK417.out⟩
 have n1_ : Aside0 (((((w18.setCell ⟨gb417, 0, none⟩ (.int .u64 t413)).setCell ⟨gb417, 1, none⟩ (.int .u64 t414)).setCell ⟨gb418, 0, none⟩ (.int .u64 t415)).setCell ⟨gb418, 1, none⟩ (.int .u64 t416)).heap[gb418]? = some (.cells #[.int .u64 t415, .int .u64 t416] 24 (0, 0))) := ⟨by (with_reducible repeat (first | refine blk_drewN ?_ _ | refine blk_drew ?_ | refine blk_alloc ?_ _)); refine blk_put (cs := #[.int .u64 t415, .int .u64 0]) ?_ 1 _ rfl; (with_reducible repeat (first | refine blk_drewN ?_ _ | refine blk_drew ?_ | refine blk_alloc ?_ _)); refine blk_put (cs := #[.int .u64 0, .int .u64 0]) ?_ 0 _ rfl; (with_reducible repeat (first | refine blk_drewN ?_ _ | refine blk_drew ?_ | refine blk_alloc ?_ _)); refine blk_far ?_ NB418_417.out _; (with_reducible repeat (first | refine blk_drewN ?_ _ | refine blk_drew ?_ | refine blk_alloc ?_ _)); refine blk_far ?_ NB418_417.out _; (with_reducible repeat (first | refine blk_drewN ?_ _ | refine blk_drew ?_ | refine blk_alloc ?_ _)); exact BK418.out⟩
 have n2_ : Aside0 (Below w.heap.size w ((((w18.setCell ⟨gb417, 0, none⟩ (.int .u64 t413)).setCell ⟨gb417, 1, none⟩ (.int .u64 t414)).setCell ⟨gb418, 0, none⟩ (.int .u64 t415)).setCell ⟨gb418, 1, none⟩ (.int .u64 t416))) := ⟨by repeat (first | (with_reducible first | exact HB.out | apply below_alloc | apply pw_below_drewN | apply below_drew1 | refine below_set ?_ GE417.out | refine below_set ?_ GE418.out) | exact HB.out)⟩
 (try clear BK417)
 (try clear BK418)
 (try clear HB)
 generalize ((((w18.setCell ⟨gb417, 0, none⟩ (.int .u64 t413)).setCell ⟨gb417, 1, none⟩ (.int .u64 t414)).setCell ⟨gb418, 0, none⟩ (.int .u64 t415)).setCell ⟨gb418, 1, none⟩ (.int .u64 t416)) = w22 at n0_ n1_ n2_ ⊢
 have BK417 := n0_
 have BK418 := n1_
 have HB := n2_
 clear n0_ n1_ n2_
 have n0_ := am (blk_drew BK417.out)
 have n1_ := am (blk_drew BK418.out)
 have n2_ := am (below_drew1 HB.out)
 clear BK417
 clear BK418
 clear HB
 have BK417 := n0_
 have BK418 := n1_
 have HB := n2_
 clear n0_ n1_ n2_
 refine start_ (n := 18) (S := fun w' => w'.cell? ⟨gb417, 0, none⟩ = some (.int .u64 t413) ∧ w'.cell? ⟨gb417, 1, none⟩ = some (.int .u64 t414) ∧ w'.cell? ⟨gb418, 0, none⟩ = some (.int .u64 t415) ∧ w'.cell? ⟨gb418, 1, none⟩ = some (.int .u64 t416)) (ds := []) (ar 18 0) (by kernel_rfl) rfl rfl ⟨(blk_cell BK417.out 0).trans rfl, (blk_cell BK417.out 1).trans rfl, (blk_cell BK418.out 0).trans rfl, (blk_cell BK418.out 1).trans rfl⟩ (fun hHeld => ?_); refine with_tabW wardenlaw03_TnumOrder.tab2 wardenlaw03_TnumOrder.bits2 (fun HT_ HW_ => ?_)
 generalize w22.drew = w23 at BK417 BK418 HB hHeld ⊢
 refine pure_ (i := 1) (N := some 29) (v := ?_) (a' := ?_) (ar 18 2) rfl rfl (any_of HT_.out (by kernel_rfl)) (fun _ _ _ h => h) (Or.inl ⟨by rfl, ?_⟩) ?_ ?_
 rotate_left
 ·intro w'
  go_simp
  with_reducible rfl
 rotate_left
 ·simp only [Act.put, q1, q2, q3, i64_w, i32_w]
  rfl
 refine pure_ (i := 3) (N := some 31) (v := ?_) (a' := ?_) (ar 18 10) rfl rfl (any_of HT_.out (by kernel_rfl)) (fun _ _ _ h => h) (Or.inl ⟨by rfl, ?_⟩) ?_ ?_
 rotate_left
 ·intro w'
  go_simp
  with_reducible rfl
 rotate_left
 ·simp only [Act.put, q1, q2, q3, i64_w, i32_w]
  rfl
 refine pure_ (i := 4) (N := some 32) (v := ?_) (a' := ?_) (ar 18 26) rfl rfl (any_of HT_.out (by kernel_rfl)) (fun _ _ _ h => h) (Or.inl ⟨by rfl, ?_⟩) ?_ ?_
 rotate_left
 ·intro w'
  go_simp
  with_reducible rfl
 rotate_left
 ·simp only [Act.put, q1, q2, q3, i64_w, i32_w]
  rfl
 refine pure_ (i := 5) (N := some 33) (v := ?_) (a' := ?_) (ar 18 58) rfl rfl (any_of HT_.out (by kernel_rfl)) (fun _ _ _ h => h) (Or.inl ⟨by rfl, ?_⟩) ?_ ?_
 rotate_left
 ·intro w'
  go_simp
  with_reducible rfl
 rotate_left
 ·simp only [Act.put, q1, q2, q3, i64_w, i32_w]
  rfl
 refine pure_ (i := 8) (N := some 36) (v := ?_) (a' := ?_) (ar 18 314) rfl rfl (any_of HT_.out (by kernel_rfl)) (fun _ _ _ h => h) (Or.inl ⟨by rfl, ?_⟩) ?_ ?_
 rotate_left
 ·intro w'
  go_simp
  with_reducible rfl
 rotate_left
 ·simp only [Act.put, q1, q2, q3, i64_w, i32_w]
  rfl
 refine pure_ (i := 10) (N := some 38) (v := ?_) (a' := ?_) (ar 18 1338) rfl rfl (any_of HT_.out (by kernel_rfl)) (fun _ _ _ h => h) (Or.inl ⟨by rfl, ?_⟩) ?_ ?_
 rotate_left
 ·intro w'
  go_simp
  with_reducible rfl
 rotate_left
 ·simp only [Act.put, q1, q2, q3, i64_w, i32_w]
  rfl
 refine pure_ (i := 11) (N := some 39) (v := ?_) (a' := ?_) (ar 18 3386) rfl rfl (any_of HT_.out (by kernel_rfl)) (fun _ _ _ h => h) (Or.inl ⟨by rfl, ?_⟩) ?_ ?_
 rotate_left
 ·intro w'
  go_simp
  with_reducible rfl
 rotate_left
 ·simp only [Act.put, q1, q2, q3, i64_w, i32_w]
  rfl
 refine pure_ (i := 12) (N := some 40) (v := ?_) (a' := ?_) (ar 18 7482) rfl rfl (any_of HT_.out (by kernel_rfl)) (fun _ _ _ h => h) (Or.inl ⟨by rfl, ?_⟩) ?_ ?_
 rotate_left
 ·intro w'
  go_simp
  with_reducible rfl
 rotate_left
 ·simp only [Act.put, q1, q2, q3, i64_w, i32_w]
  rfl
 refine take_ (i := 0) (N := some 28) (v := ?_) (a' := ?_) (ar 18 7483) rfl rfl (take_ofW HT_.out HW_.out (by kernel_rfl)) (fun _ _ _ h => h) (Or.inl ⟨by rfl, ?_⟩) hHeld ?_ ?_
 rotate_left
 ·rintro w' ⟨s0, s1, s2, s3⟩
  go_simp
  with_reducible rfl
 rotate_left
 ·simp only [Act.put, q1, q2, q3, i64_w, i32_w]
  rfl
 refine take_ (i := 7) (N := some 35) (v := ?_) (a' := ?_) (ar 18 7611) rfl rfl (take_ofW HT_.out HW_.out (by kernel_rfl)) (fun _ _ _ h => h) (Or.inl ⟨by rfl, ?_⟩) hHeld ?_ ?_
 rotate_left
 ·rintro w' ⟨s0, s1, s2, s3⟩
  go_simp
  with_reducible rfl
 rotate_left
 ·simp only [Act.put, q1, q2, q3, i64_w, i32_w]
  rfl
 refine join_ (σ := Nat × Nat) 2 (ar 18 65535) (fun s_ => [(30, .int .u64 t419), (34, .agg #[.int .u64 t420, .int .u64 t421]), (37, .int .u64 t422), (41, .agg #[.int .u64 t423, .int .u64 t424]), (17, .pointer (some ⟨s_.1, 0, none⟩)), (18, .pointer (some ⟨s_.2, 0, none⟩))]) (fun s_ w' => (w'.cell? ⟨gb417, 0, none⟩ = some (.int .u64 t413) ∧ w'.cell? ⟨gb417, 1, none⟩ = some (.int .u64 t414) ∧ w'.cell? ⟨gb418, 0, none⟩ = some (.int .u64 t415) ∧ w'.cell? ⟨gb418, 1, none⟩ = some (.int .u64 t416)) ∧ (w'.heap[gb417]? = some (.cells #[.int .u64 t413, .int .u64 t414] 24 (0, 0))) ∧ (w'.heap[gb418]? = some (.cells #[.int .u64 t415, .int .u64 t416] 24 (0, 0))) ∧ (w'.heap[s_.1]? = some (.cells #[.int .u64 0, .int .u64 0] 24 (0, 0))) ∧ (w'.heap[s_.2]? = some (.cells #[.int .u64 0, .int .u64 0] 24 (0, 0))) ∧ (w.heap.size ≤ s_.1) ∧ (w.heap.size ≤ s_.1) ∧ (gb417 ≠ s_.1) ∧ (s_.1 ≠ gb417) ∧ (gb418 ≠ s_.1) ∧ (s_.1 ≠ gb418) ∧ (s_.2 ≠ s_.1) ∧ (s_.1 ≠ s_.2) ∧ (w.heap.size ≤ s_.2) ∧ (w.heap.size ≤ s_.2) ∧ (gb417 ≠ s_.2) ∧ (s_.2 ≠ gb417) ∧ (gb418 ≠ s_.2) ∧ (s_.2 ≠ gb418) ∧ (Below w.heap.size w w')) ?_ ?_
 rotate_left
 ·intro hJ2_6_9_13_14_15
  refine join_ (σ := Nat) 3 (ar 18 32767) (fun s_ => [(30, .int .u64 t419), (34, .agg #[.int .u64 t420, .int .u64 t421]), (37, .int .u64 t422), (41, .agg #[.int .u64 t423, .int .u64 t424]), (17, .pointer (some ⟨s_, 0, none⟩))]) (fun s_ w' => (w'.cell? ⟨gb417, 0, none⟩ = some (.int .u64 t413) ∧ w'.cell? ⟨gb417, 1, none⟩ = some (.int .u64 t414) ∧ w'.cell? ⟨gb418, 0, none⟩ = some (.int .u64 t415) ∧ w'.cell? ⟨gb418, 1, none⟩ = some (.int .u64 t416)) ∧ (w'.heap[gb417]? = some (.cells #[.int .u64 t413, .int .u64 t414] 24 (0, 0))) ∧ (w'.heap[gb418]? = some (.cells #[.int .u64 t415, .int .u64 t416] 24 (0, 0))) ∧ (w'.heap[s_]? = some (.cells #[.int .u64 0, .int .u64 0] 24 (0, 0))) ∧ (w.heap.size ≤ s_) ∧ (w.heap.size ≤ s_) ∧ (gb417 ≠ s_) ∧ (s_ ≠ gb417) ∧ (gb418 ≠ s_) ∧ (s_ ≠ gb418) ∧ (Below w.heap.size w w')) ?_ ?_
  rotate_left
  ·intro hJ2_6_9_13_14
   refine join_ (σ := Nat) 3 (ar 18 49151) (fun s_ => [(30, .int .u64 t419), (34, .agg #[.int .u64 t420, .int .u64 t421]), (37, .int .u64 t422), (41, .agg #[.int .u64 t423, .int .u64 t424]), (18, .pointer (some ⟨s_, 0, none⟩))]) (fun s_ w' => (w'.cell? ⟨gb417, 0, none⟩ = some (.int .u64 t413) ∧ w'.cell? ⟨gb417, 1, none⟩ = some (.int .u64 t414) ∧ w'.cell? ⟨gb418, 0, none⟩ = some (.int .u64 t415) ∧ w'.cell? ⟨gb418, 1, none⟩ = some (.int .u64 t416)) ∧ (w'.heap[gb417]? = some (.cells #[.int .u64 t413, .int .u64 t414] 24 (0, 0))) ∧ (w'.heap[gb418]? = some (.cells #[.int .u64 t415, .int .u64 t416] 24 (0, 0))) ∧ (w'.heap[s_]? = some (.cells #[.int .u64 0, .int .u64 0] 24 (0, 0))) ∧ (w.heap.size ≤ s_) ∧ (w.heap.size ≤ s_) ∧ (gb417 ≠ s_) ∧ (s_ ≠ gb417) ∧ (gb418 ≠ s_) ∧ (s_ ≠ gb418) ∧ (Below w.heap.size w w')) ?_ ?_
   rotate_left
   ·intro hJ2_6_9_13_15
    refine join_ (σ := Nat × Nat) 3 (ar 18 57343) (fun s_ => [(30, .int .u64 t419), (34, .agg #[.int .u64 t420, .int .u64 t421]), (37, .int .u64 t422), (17, .pointer (some ⟨s_.1, 0, none⟩)), (18, .pointer (some ⟨s_.2, 0, none⟩))]) (fun s_ w' => (w'.cell? ⟨gb417, 0, none⟩ = some (.int .u64 t413) ∧ w'.cell? ⟨gb417, 1, none⟩ = some (.int .u64 t414) ∧ w'.cell? ⟨gb418, 0, none⟩ = some (.int .u64 t415) ∧ w'.cell? ⟨gb418, 1, none⟩ = some (.int .u64 t416)) ∧ (w'.heap[gb417]? = some (.cells #[.int .u64 t413, .int .u64 t414] 24 (0, 0))) ∧ (w'.heap[gb418]? = some (.cells #[.int .u64 t415, .int .u64 t416] 24 (0, 0))) ∧ (w'.heap[s_.1]? = some (.cells #[.int .u64 0, .int .u64 0] 24 (0, 0))) ∧ (w'.heap[s_.2]? = some (.cells #[.int .u64 0, .int .u64 0] 24 (0, 0))) ∧ (w.heap.size ≤ s_.1) ∧ (w.heap.size ≤ s_.1) ∧ (gb417 ≠ s_.1) ∧ (s_.1 ≠ gb417) ∧ (gb418 ≠ s_.1) ∧ (s_.1 ≠ gb418) ∧ (s_.2 ≠ s_.1) ∧ (s_.1 ≠ s_.2) ∧ (w.heap.size ≤ s_.2) ∧ (w.heap.size ≤ s_.2) ∧ (gb417 ≠ s_.2) ∧ (s_.2 ≠ gb417) ∧ (gb418 ≠ s_.2) ∧ (s_.2 ≠ gb418) ∧ (Below w.heap.size w w')) ?_ ?_
    rotate_left
    ·intro hJ2_6_9_14_15
     refine join_ (σ := Unit) 4 (ar 18 16383) (fun s_ => [(30, .int .u64 t419), (34, .agg #[.int .u64 t420, .int .u64 t421]), (37, .int .u64 t422), (41, .agg #[.int .u64 t423, .int .u64 t424])]) (fun s_ w' => (w'.cell? ⟨gb417, 0, none⟩ = some (.int .u64 t413) ∧ w'.cell? ⟨gb417, 1, none⟩ = some (.int .u64 t414) ∧ w'.cell? ⟨gb418, 0, none⟩ = some (.int .u64 t415) ∧ w'.cell? ⟨gb418, 1, none⟩ = some (.int .u64 t416)) ∧ (w'.heap[gb417]? = some (.cells #[.int .u64 t413, .int .u64 t414] 24 (0, 0))) ∧ (w'.heap[gb418]? = some (.cells #[.int .u64 t415, .int .u64 t416] 24 (0, 0))) ∧ (Below w.heap.size w w')) ?_ ?_
     rotate_left
     ·intro hJ2_6_9_13
      refine join_ (σ := Nat) 4 (ar 18 24575) (fun s_ => [(30, .int .u64 t419), (34, .agg #[.int .u64 t420, .int .u64 t421]), (37, .int .u64 t422), (17, .pointer (some ⟨s_, 0, none⟩))]) (fun s_ w' => (w'.cell? ⟨gb417, 0, none⟩ = some (.int .u64 t413) ∧ w'.cell? ⟨gb417, 1, none⟩ = some (.int .u64 t414) ∧ w'.cell? ⟨gb418, 0, none⟩ = some (.int .u64 t415) ∧ w'.cell? ⟨gb418, 1, none⟩ = some (.int .u64 t416)) ∧ (w'.heap[gb417]? = some (.cells #[.int .u64 t413, .int .u64 t414] 24 (0, 0))) ∧ (w'.heap[gb418]? = some (.cells #[.int .u64 t415, .int .u64 t416] 24 (0, 0))) ∧ (w'.heap[s_]? = some (.cells #[.int .u64 0, .int .u64 0] 24 (0, 0))) ∧ (w.heap.size ≤ s_) ∧ (w.heap.size ≤ s_) ∧ (gb417 ≠ s_) ∧ (s_ ≠ gb417) ∧ (gb418 ≠ s_) ∧ (s_ ≠ gb418) ∧ (Below w.heap.size w w')) ?_ ?_
      rotate_left
      ·intro hJ2_6_9_14
       refine join_ (σ := Nat) 4 (ar 18 40959) (fun s_ => [(30, .int .u64 t419), (34, .agg #[.int .u64 t420, .int .u64 t421]), (37, .int .u64 t422), (18, .pointer (some ⟨s_, 0, none⟩))]) (fun s_ w' => (w'.cell? ⟨gb417, 0, none⟩ = some (.int .u64 t413) ∧ w'.cell? ⟨gb417, 1, none⟩ = some (.int .u64 t414) ∧ w'.cell? ⟨gb418, 0, none⟩ = some (.int .u64 t415) ∧ w'.cell? ⟨gb418, 1, none⟩ = some (.int .u64 t416)) ∧ (w'.heap[gb417]? = some (.cells #[.int .u64 t413, .int .u64 t414] 24 (0, 0))) ∧ (w'.heap[gb418]? = some (.cells #[.int .u64 t415, .int .u64 t416] 24 (0, 0))) ∧ (w'.heap[s_]? = some (.cells #[.int .u64 0, .int .u64 0] 24 (0, 0))) ∧ (w.heap.size ≤ s_) ∧ (w.heap.size ≤ s_) ∧ (gb417 ≠ s_) ∧ (s_ ≠ gb417) ∧ (gb418 ≠ s_) ∧ (s_ ≠ gb418) ∧ (Below w.heap.size w w')) ?_ ?_
       rotate_left
       ·intro hJ2_6_9_15
        refine join_ (σ := Nat × Nat) 4 (ar 18 56831) (fun s_ => [(30, .int .u64 t419), (34, .agg #[.int .u64 t420, .int .u64 t421]), (17, .pointer (some ⟨s_.1, 0, none⟩)), (18, .pointer (some ⟨s_.2, 0, none⟩))]) (fun s_ w' => (w'.cell? ⟨gb417, 0, none⟩ = some (.int .u64 t413) ∧ w'.cell? ⟨gb417, 1, none⟩ = some (.int .u64 t414) ∧ w'.cell? ⟨gb418, 0, none⟩ = some (.int .u64 t415) ∧ w'.cell? ⟨gb418, 1, none⟩ = some (.int .u64 t416)) ∧ (w'.heap[gb417]? = some (.cells #[.int .u64 t413, .int .u64 t414] 24 (0, 0))) ∧ (w'.heap[gb418]? = some (.cells #[.int .u64 t415, .int .u64 t416] 24 (0, 0))) ∧ (w'.heap[s_.1]? = some (.cells #[.int .u64 0, .int .u64 0] 24 (0, 0))) ∧ (w'.heap[s_.2]? = some (.cells #[.int .u64 0, .int .u64 0] 24 (0, 0))) ∧ (w.heap.size ≤ s_.1) ∧ (w.heap.size ≤ s_.1) ∧ (gb417 ≠ s_.1) ∧ (s_.1 ≠ gb417) ∧ (gb418 ≠ s_.1) ∧ (s_.1 ≠ gb418) ∧ (s_.2 ≠ s_.1) ∧ (s_.1 ≠ s_.2) ∧ (w.heap.size ≤ s_.2) ∧ (w.heap.size ≤ s_.2) ∧ (gb417 ≠ s_.2) ∧ (s_.2 ≠ gb417) ∧ (gb418 ≠ s_.2) ∧ (s_.2 ≠ gb418) ∧ (Below w.heap.size w w')) ?_ ?_
        rotate_left
        ·intro hJ2_6_14_15
         refine join_ (σ := Unit) 5 (ar 18 8191) (fun s_ => [(30, .int .u64 t419), (34, .agg #[.int .u64 t420, .int .u64 t421]), (37, .int .u64 t422)]) (fun s_ w' => (w'.cell? ⟨gb417, 0, none⟩ = some (.int .u64 t413) ∧ w'.cell? ⟨gb417, 1, none⟩ = some (.int .u64 t414) ∧ w'.cell? ⟨gb418, 0, none⟩ = some (.int .u64 t415) ∧ w'.cell? ⟨gb418, 1, none⟩ = some (.int .u64 t416)) ∧ (w'.heap[gb417]? = some (.cells #[.int .u64 t413, .int .u64 t414] 24 (0, 0))) ∧ (w'.heap[gb418]? = some (.cells #[.int .u64 t415, .int .u64 t416] 24 (0, 0))) ∧ (Below w.heap.size w w')) ?_ ?_
         rotate_left
         ·intro hJ2_6_9
          refine join_ (σ := Nat) 5 (ar 18 24063) (fun s_ => [(30, .int .u64 t419), (34, .agg #[.int .u64 t420, .int .u64 t421]), (17, .pointer (some ⟨s_, 0, none⟩))]) (fun s_ w' => (w'.cell? ⟨gb417, 0, none⟩ = some (.int .u64 t413) ∧ w'.cell? ⟨gb417, 1, none⟩ = some (.int .u64 t414) ∧ w'.cell? ⟨gb418, 0, none⟩ = some (.int .u64 t415) ∧ w'.cell? ⟨gb418, 1, none⟩ = some (.int .u64 t416)) ∧ (w'.heap[gb417]? = some (.cells #[.int .u64 t413, .int .u64 t414] 24 (0, 0))) ∧ (w'.heap[gb418]? = some (.cells #[.int .u64 t415, .int .u64 t416] 24 (0, 0))) ∧ (w'.heap[s_]? = some (.cells #[.int .u64 0, .int .u64 0] 24 (0, 0))) ∧ (w.heap.size ≤ s_) ∧ (w.heap.size ≤ s_) ∧ (gb417 ≠ s_) ∧ (s_ ≠ gb417) ∧ (gb418 ≠ s_) ∧ (s_ ≠ gb418) ∧ (Below w.heap.size w w')) ?_ ?_
          rotate_left
          ·intro hJ2_6_14
           refine join_ (σ := Nat) 5 (ar 18 40447) (fun s_ => [(30, .int .u64 t419), (34, .agg #[.int .u64 t420, .int .u64 t421]), (18, .pointer (some ⟨s_, 0, none⟩))]) (fun s_ w' => (w'.cell? ⟨gb417, 0, none⟩ = some (.int .u64 t413) ∧ w'.cell? ⟨gb417, 1, none⟩ = some (.int .u64 t414) ∧ w'.cell? ⟨gb418, 0, none⟩ = some (.int .u64 t415) ∧ w'.cell? ⟨gb418, 1, none⟩ = some (.int .u64 t416)) ∧ (w'.heap[gb417]? = some (.cells #[.int .u64 t413, .int .u64 t414] 24 (0, 0))) ∧ (w'.heap[gb418]? = some (.cells #[.int .u64 t415, .int .u64 t416] 24 (0, 0))) ∧ (w'.heap[s_]? = some (.cells #[.int .u64 0, .int .u64 0] 24 (0, 0))) ∧ (w.heap.size ≤ s_) ∧ (w.heap.size ≤ s_) ∧ (gb417 ≠ s_) ∧ (s_ ≠ gb417) ∧ (gb418 ≠ s_) ∧ (s_ ≠ gb418) ∧ (Below w.heap.size w w')) ?_ ?_
           rotate_left
           ·intro hJ2_6_15
            refine join_ (σ := Nat × Nat) 5 (ar 18 56767) (fun s_ => [(30, .int .u64 t419), (17, .pointer (some ⟨s_.1, 0, none⟩)), (18, .pointer (some ⟨s_.2, 0, none⟩))]) (fun s_ w' => (w'.cell? ⟨gb417, 0, none⟩ = some (.int .u64 t413) ∧ w'.cell? ⟨gb417, 1, none⟩ = some (.int .u64 t414) ∧ w'.cell? ⟨gb418, 0, none⟩ = some (.int .u64 t415) ∧ w'.cell? ⟨gb418, 1, none⟩ = some (.int .u64 t416)) ∧ (w'.heap[gb417]? = some (.cells #[.int .u64 t413, .int .u64 t414] 24 (0, 0))) ∧ (w'.heap[gb418]? = some (.cells #[.int .u64 t415, .int .u64 t416] 24 (0, 0))) ∧ (w'.heap[s_.1]? = some (.cells #[.int .u64 0, .int .u64 0] 24 (0, 0))) ∧ (w'.heap[s_.2]? = some (.cells #[.int .u64 0, .int .u64 0] 24 (0, 0))) ∧ (w.heap.size ≤ s_.1) ∧ (w.heap.size ≤ s_.1) ∧ (gb417 ≠ s_.1) ∧ (s_.1 ≠ gb417) ∧ (gb418 ≠ s_.1) ∧ (s_.1 ≠ gb418) ∧ (s_.2 ≠ s_.1) ∧ (s_.1 ≠ s_.2) ∧ (w.heap.size ≤ s_.2) ∧ (w.heap.size ≤ s_.2) ∧ (gb417 ≠ s_.2) ∧ (s_.2 ≠ gb417) ∧ (gb418 ≠ s_.2) ∧ (s_.2 ≠ gb418) ∧ (Below w.heap.size w w')) ?_ ?_
            rotate_left
            ·intro hJ2_14_15
             refine join_ (σ := Unit) 6 (ar 18 7679) (fun s_ => [(30, .int .u64 t419), (34, .agg #[.int .u64 t420, .int .u64 t421])]) (fun s_ w' => (w'.cell? ⟨gb417, 0, none⟩ = some (.int .u64 t413) ∧ w'.cell? ⟨gb417, 1, none⟩ = some (.int .u64 t414) ∧ w'.cell? ⟨gb418, 0, none⟩ = some (.int .u64 t415) ∧ w'.cell? ⟨gb418, 1, none⟩ = some (.int .u64 t416)) ∧ (w'.heap[gb417]? = some (.cells #[.int .u64 t413, .int .u64 t414] 24 (0, 0))) ∧ (w'.heap[gb418]? = some (.cells #[.int .u64 t415, .int .u64 t416] 24 (0, 0))) ∧ (Below w.heap.size w w')) ?_ ?_
             rotate_left
             ·intro hJ2_6
              refine join_ (σ := Nat) 6 (ar 18 23999) (fun s_ => [(30, .int .u64 t419), (17, .pointer (some ⟨s_, 0, none⟩))]) (fun s_ w' => (w'.cell? ⟨gb417, 0, none⟩ = some (.int .u64 t413) ∧ w'.cell? ⟨gb417, 1, none⟩ = some (.int .u64 t414) ∧ w'.cell? ⟨gb418, 0, none⟩ = some (.int .u64 t415) ∧ w'.cell? ⟨gb418, 1, none⟩ = some (.int .u64 t416)) ∧ (w'.heap[gb417]? = some (.cells #[.int .u64 t413, .int .u64 t414] 24 (0, 0))) ∧ (w'.heap[gb418]? = some (.cells #[.int .u64 t415, .int .u64 t416] 24 (0, 0))) ∧ (w'.heap[s_]? = some (.cells #[.int .u64 0, .int .u64 0] 24 (0, 0))) ∧ (w.heap.size ≤ s_) ∧ (w.heap.size ≤ s_) ∧ (gb417 ≠ s_) ∧ (s_ ≠ gb417) ∧ (gb418 ≠ s_) ∧ (s_ ≠ gb418) ∧ (Below w.heap.size w w')) ?_ ?_
              rotate_left
              ·intro hJ2_14
               refine join_ (σ := Nat) 6 (ar 18 40383) (fun s_ => [(30, .int .u64 t419), (18, .pointer (some ⟨s_, 0, none⟩))]) (fun s_ w' => (w'.cell? ⟨gb417, 0, none⟩ = some (.int .u64 t413) ∧ w'.cell? ⟨gb417, 1, none⟩ = some (.int .u64 t414) ∧ w'.cell? ⟨gb418, 0, none⟩ = some (.int .u64 t415) ∧ w'.cell? ⟨gb418, 1, none⟩ = some (.int .u64 t416)) ∧ (w'.heap[gb417]? = some (.cells #[.int .u64 t413, .int .u64 t414] 24 (0, 0))) ∧ (w'.heap[gb418]? = some (.cells #[.int .u64 t415, .int .u64 t416] 24 (0, 0))) ∧ (w'.heap[s_]? = some (.cells #[.int .u64 0, .int .u64 0] 24 (0, 0))) ∧ (w.heap.size ≤ s_) ∧ (w.heap.size ≤ s_) ∧ (gb417 ≠ s_) ∧ (s_ ≠ gb417) ∧ (gb418 ≠ s_) ∧ (s_ ≠ gb418) ∧ (Below w.heap.size w w')) ?_ ?_
               rotate_left
               ·intro hJ2_15
                refine join_ (σ := Nat × Nat) 6 (ar 18 56763) (fun s_ => [(17, .pointer (some ⟨s_.1, 0, none⟩)), (18, .pointer (some ⟨s_.2, 0, none⟩))]) (fun s_ w' => (w'.cell? ⟨gb417, 0, none⟩ = some (.int .u64 t413) ∧ w'.cell? ⟨gb417, 1, none⟩ = some (.int .u64 t414) ∧ w'.cell? ⟨gb418, 0, none⟩ = some (.int .u64 t415) ∧ w'.cell? ⟨gb418, 1, none⟩ = some (.int .u64 t416)) ∧ (w'.heap[gb417]? = some (.cells #[.int .u64 t413, .int .u64 t414] 24 (0, 0))) ∧ (w'.heap[gb418]? = some (.cells #[.int .u64 t415, .int .u64 t416] 24 (0, 0))) ∧ (w'.heap[s_.1]? = some (.cells #[.int .u64 0, .int .u64 0] 24 (0, 0))) ∧ (w'.heap[s_.2]? = some (.cells #[.int .u64 0, .int .u64 0] 24 (0, 0))) ∧ (w.heap.size ≤ s_.1) ∧ (w.heap.size ≤ s_.1) ∧ (gb417 ≠ s_.1) ∧ (s_.1 ≠ gb417) ∧ (gb418 ≠ s_.1) ∧ (s_.1 ≠ gb418) ∧ (s_.2 ≠ s_.1) ∧ (s_.1 ≠ s_.2) ∧ (w.heap.size ≤ s_.2) ∧ (w.heap.size ≤ s_.2) ∧ (gb417 ≠ s_.2) ∧ (s_.2 ≠ gb417) ∧ (gb418 ≠ s_.2) ∧ (s_.2 ≠ gb418) ∧ (Below w.heap.size w w')) ?_ ?_
                rotate_left
                ·intro hJ14_15
                 refine join_ (σ := Unit) 7 (ar 18 7615) (fun s_ => [(30, .int .u64 t419)]) (fun s_ w' => (w'.cell? ⟨gb417, 0, none⟩ = some (.int .u64 t413) ∧ w'.cell? ⟨gb417, 1, none⟩ = some (.int .u64 t414) ∧ w'.cell? ⟨gb418, 0, none⟩ = some (.int .u64 t415) ∧ w'.cell? ⟨gb418, 1, none⟩ = some (.int .u64 t416)) ∧ (w'.heap[gb417]? = some (.cells #[.int .u64 t413, .int .u64 t414] 24 (0, 0))) ∧ (w'.heap[gb418]? = some (.cells #[.int .u64 t415, .int .u64 t416] 24 (0, 0))) ∧ (Below w.heap.size w w')) ?_ ?_
                 rotate_left
                 ·intro hJ2
                  refine join_ (σ := Nat) 7 (ar 18 23995) (fun s_ => [(17, .pointer (some ⟨s_, 0, none⟩))]) (fun s_ w' => (w'.cell? ⟨gb417, 0, none⟩ = some (.int .u64 t413) ∧ w'.cell? ⟨gb417, 1, none⟩ = some (.int .u64 t414) ∧ w'.cell? ⟨gb418, 0, none⟩ = some (.int .u64 t415) ∧ w'.cell? ⟨gb418, 1, none⟩ = some (.int .u64 t416)) ∧ (w'.heap[gb417]? = some (.cells #[.int .u64 t413, .int .u64 t414] 24 (0, 0))) ∧ (w'.heap[gb418]? = some (.cells #[.int .u64 t415, .int .u64 t416] 24 (0, 0))) ∧ (w'.heap[s_]? = some (.cells #[.int .u64 0, .int .u64 0] 24 (0, 0))) ∧ (w.heap.size ≤ s_) ∧ (w.heap.size ≤ s_) ∧ (gb417 ≠ s_) ∧ (s_ ≠ gb417) ∧ (gb418 ≠ s_) ∧ (s_ ≠ gb418) ∧ (Below w.heap.size w w')) ?_ ?_
                  rotate_left
                  ·intro hJ14
                   refine join_ (σ := Nat) 7 (ar 18 40379) (fun s_ => [(18, .pointer (some ⟨s_, 0, none⟩))]) (fun s_ w' => (w'.cell? ⟨gb417, 0, none⟩ = some (.int .u64 t413) ∧ w'.cell? ⟨gb417, 1, none⟩ = some (.int .u64 t414) ∧ w'.cell? ⟨gb418, 0, none⟩ = some (.int .u64 t415) ∧ w'.cell? ⟨gb418, 1, none⟩ = some (.int .u64 t416)) ∧ (w'.heap[gb417]? = some (.cells #[.int .u64 t413, .int .u64 t414] 24 (0, 0))) ∧ (w'.heap[gb418]? = some (.cells #[.int .u64 t415, .int .u64 t416] 24 (0, 0))) ∧ (w'.heap[s_]? = some (.cells #[.int .u64 0, .int .u64 0] 24 (0, 0))) ∧ (w.heap.size ≤ s_) ∧ (w.heap.size ≤ s_) ∧ (gb417 ≠ s_) ∧ (s_ ≠ gb417) ∧ (gb418 ≠ s_) ∧ (s_ ≠ gb418) ∧ (Below w.heap.size w w')) ?_ ?_
                   rotate_left
                   ·intro hJ15
                    refine three_ (i := 2) (j := 14) (k := 15) (Ni := some 30) (Nj := some 17) (Nk := some 18) (ar 18 7615) (ar 18 23995) (ar 18 40379) rfl rfl rfl rfl rfl rfl (three_of HT_.out (by kernel_rfl)) (by decide) (by decide) (by decide) (fun K hK => ?_) (fun K hK => ?_) (fun K hK => ?_)
                    ·skip
                     refine goes_ Try.func38 (by kernel_rfl) rfl #[.agg #[.int .u64 t413, .int .u64 t414], .int .u64 a4] (by rfl) rfl rfl (by (try simp only [List.map_toArray, List.map_cons, List.map_nil]); first | done | rfl) ?_
                     with_reducible refine (wardenlaw03_some.calls t413 t414 a4 t419 _ A10.out).mono ?_
                     rintro e w24 ⟨rfl, hb⟩
                     refine ⟨_, rfl, ?_⟩
                     have n0_ := am (blk_below BK417.out hb)
                     have n1_ := am (blk_below BK418.out hb)
                     have n2_ := am (below_step (by repeat (first | exact HB.out | refine below_set ?_ GE417.out | refine below_set ?_ GE418.out)) hb)
                     clear BK417
                     clear BK418
                     clear HB
                     have BK417 := n0_
                     have BK418 := n1_
                     have HB := n2_
                     clear n0_ n1_ n2_
                     (try clear hb)
                     (try clear hb2)
                     (try clear hk)
                     (try clear hi)
                     refine hK.out _ _ ⟨(blk_cell BK417.out 0).trans rfl, (blk_cell BK417.out 1).trans rfl, (blk_cell BK418.out 0).trans rfl, (blk_cell BK418.out 1).trans rfl⟩ (fun hHeld => ?_)
                     clear hK K
                     refine norm_ (a' := ?_) ?_ ?_
                     rotate_left
                     ·show Act.put _ (some 30) _ = _
                      simp only [Act.put, q1, q2, q3, i64_w, i32_w]
                      rfl
                     exact norm_ (by first | (simp only [putAll, Act.put, q1, q2, q3]; done) | (simp only [putAll, Act.put, q1, q2, q3]; rfl)) (hJ2 () _ ⟨hHeld, BK417.out, BK418.out, (by repeat (first | exact HB.out | refine below_set ?_ GE417.out | refine below_set ?_ GE418.out))⟩)
                    ·skip
                     refine box_step ?hg (N := 17) ?hd (cs := #[.int .u64 0, .int .u64 0]) (t := 24) ?hr ?_; (case hd => rfl); (case hg => rfl); (case hr => first | (go_simp; done) | (go_simp; rfl))
                     intro gb425 hg w24 hbox hb
                     have n0_ := am (blk_below BK417.out hb)
                     have n1_ := am (blk_below BK418.out hb)
                     have n2_ := am (below_step (by repeat (first | exact HB.out | refine below_set ?_ GE417.out | refine below_set ?_ GE418.out)) hb)
                     have n3_ := am (hbox)
                     have n4_ := am ((by rw [hg]; exact (below_size (by repeat (first | exact HB.out | refine below_set ?_ GE417.out | refine below_set ?_ GE418.out))) : w.heap.size ≤ gb425))
                     have n5_ := am ((by rw [hg]; exact (below_size (by repeat (first | exact HB.out | refine below_set ?_ GE417.out | refine below_set ?_ GE418.out))) : w.heap.size ≤ gb425))
                     have n6_ := am ((by rw [hg]; exact Nat.ne_of_lt (blk_lt BK417.out) : gb417 ≠ gb425))
                     have n7_ := am ((by rw [hg]; exact Nat.ne_of_gt (blk_lt BK417.out) : gb425 ≠ gb417))
                     have n8_ := am ((by rw [hg]; exact Nat.ne_of_lt (blk_lt BK418.out) : gb418 ≠ gb425))
                     have n9_ := am ((by rw [hg]; exact Nat.ne_of_gt (blk_lt BK418.out) : gb425 ≠ gb418))
                     clear BK417
                     clear BK418
                     clear HB
                     have BK417 := n0_
                     have BK418 := n1_
                     have HB := n2_
                     have BK425 := n3_
                     have GW425 := n4_
                     have GE425 := n5_
                     have NB417_425 := n6_
                     have NB425_417 := n7_
                     have NB418_425 := n8_
                     have NB425_418 := n9_
                     clear n0_ n1_ n2_ n3_ n4_ n5_ n6_ n7_ n8_ n9_
                     clear hb hbox hg
                     refine hK.out _ _ ⟨(blk_cell BK417.out 0).trans rfl, (blk_cell BK417.out 1).trans rfl, (blk_cell BK418.out 0).trans rfl, (blk_cell BK418.out 1).trans rfl⟩ (fun hHeld => ?_)
                     clear hK K
                     refine norm_ (a' := ?_) ?_ ?_
                     rotate_left
                     ·show Act.put _ (some 17) _ = _
                      simp only [Act.put, q1, q2, q3, i64_w, i32_w]
                      rfl
                     exact norm_ (by first | (simp only [putAll, Act.put, q1, q2, q3]; done) | (simp only [putAll, Act.put, q1, q2, q3]; rfl)) (hJ14 (gb425) _ ⟨hHeld, BK417.out, BK418.out, BK425.out, GW425.out, GE425.out, NB417_425.out, NB425_417.out, NB418_425.out, NB425_418.out, (by repeat (first | exact HB.out | refine below_set ?_ GE417.out | refine below_set ?_ GE418.out | refine below_set ?_ GE425.out))⟩)
                    ·skip
                     refine box_step ?hg (N := 18) ?hd (cs := #[.int .u64 0, .int .u64 0]) (t := 24) ?hr ?_; (case hd => rfl); (case hg => rfl); (case hr => first | (go_simp; done) | (go_simp; rfl))
                     intro gb426 hg w24 hbox hb
                     have n0_ := am (blk_below BK417.out hb)
                     have n1_ := am (blk_below BK418.out hb)
                     have n2_ := am (below_step (by repeat (first | exact HB.out | refine below_set ?_ GE417.out | refine below_set ?_ GE418.out)) hb)
                     have n3_ := am (hbox)
                     have n4_ := am ((by rw [hg]; exact (below_size (by repeat (first | exact HB.out | refine below_set ?_ GE417.out | refine below_set ?_ GE418.out))) : w.heap.size ≤ gb426))
                     have n5_ := am ((by rw [hg]; exact (below_size (by repeat (first | exact HB.out | refine below_set ?_ GE417.out | refine below_set ?_ GE418.out))) : w.heap.size ≤ gb426))
                     have n6_ := am ((by rw [hg]; exact Nat.ne_of_lt (blk_lt BK417.out) : gb417 ≠ gb426))
                     have n7_ := am ((by rw [hg]; exact Nat.ne_of_gt (blk_lt BK417.out) : gb426 ≠ gb417))
                     have n8_ := am ((by rw [hg]; exact Nat.ne_of_lt (blk_lt BK418.out) : gb418 ≠ gb426))
                     have n9_ := am ((by rw [hg]; exact Nat.ne_of_gt (blk_lt BK418.out) : gb426 ≠ gb418))
                     clear BK417
                     clear BK418
                     clear HB
                     have BK417 := n0_
                     have BK418 := n1_
                     have HB := n2_
                     have BK426 := n3_
                     have GW426 := n4_
                     have GE426 := n5_
                     have NB417_426 := n6_
                     have NB426_417 := n7_
                     have NB418_426 := n8_
                     have NB426_418 := n9_
                     clear n0_ n1_ n2_ n3_ n4_ n5_ n6_ n7_ n8_ n9_
                     clear hb hbox hg
                     refine hK.out _ _ ⟨(blk_cell BK417.out 0).trans rfl, (blk_cell BK417.out 1).trans rfl, (blk_cell BK418.out 0).trans rfl, (blk_cell BK418.out 1).trans rfl⟩ (fun hHeld => ?_)
                     clear hK K
                     refine norm_ (a' := ?_) ?_ ?_
                     rotate_left
                     ·show Act.put _ (some 18) _ = _
                      simp only [Act.put, q1, q2, q3, i64_w, i32_w]
                      rfl
                     exact norm_ (by first | (simp only [putAll, Act.put, q1, q2, q3]; done) | (simp only [putAll, Act.put, q1, q2, q3]; rfl)) (hJ15 (gb426) _ ⟨hHeld, BK417.out, BK418.out, BK426.out, GW426.out, GE426.out, NB417_426.out, NB426_417.out, NB418_426.out, NB426_418.out, (by repeat (first | exact HB.out | refine below_set ?_ GE417.out | refine below_set ?_ GE418.out | refine below_set ?_ GE426.out))⟩)
                   ·skip
                    rintro gb426 w25 ⟨hS_, h0_, h1_, h2_, h3_, h4_, h5_, h6_, h7_, h8_, h9_⟩
                    have n0_ : Aside0 (w25.heap[gb417]? = some (.cells #[.int .u64 t413, .int .u64 t414] 24 (0, 0))) := ⟨h0_⟩
                    have n1_ : Aside0 (w25.heap[gb418]? = some (.cells #[.int .u64 t415, .int .u64 t416] 24 (0, 0))) := ⟨h1_⟩
                    have n2_ : Aside0 (w25.heap[gb426]? = some (.cells #[.int .u64 0, .int .u64 0] 24 (0, 0))) := ⟨h2_⟩
                    have n3_ : Aside0 (w.heap.size ≤ gb426) := ⟨h3_⟩
                    have n4_ : Aside0 (w.heap.size ≤ gb426) := ⟨h4_⟩
                    have n5_ : Aside0 (gb417 ≠ gb426) := ⟨h5_⟩
                    have n6_ : Aside0 (gb426 ≠ gb417) := ⟨h6_⟩
                    have n7_ : Aside0 (gb418 ≠ gb426) := ⟨h7_⟩
                    have n8_ : Aside0 (gb426 ≠ gb418) := ⟨h8_⟩
                    have n9_ : Aside0 (Below w.heap.size w w25) := ⟨h9_⟩
                    clear BK417
                    clear BK418
                    clear HB
                    clear h0_ h1_ h2_ h3_ h4_ h5_ h6_ h7_ h8_ h9_
                    have BK417 := n0_
                    have BK418 := n1_
                    have BK426 := n2_
                    have GW426 := n3_
                    have GE426 := n4_
                    have NB417_426 := n5_
                    have NB426_417 := n6_
                    have NB418_426 := n7_
                    have NB426_418 := n8_
                    have HB := n9_
                    clear n0_ n1_ n2_ n3_ n4_ n5_ n6_ n7_ n8_ n9_
                    have hHeld : w25.cell? ⟨gb417, 0, none⟩ = some (.int .u64 t413) ∧ w25.cell? ⟨gb417, 1, none⟩ = some (.int .u64 t414) ∧ w25.cell? ⟨gb418, 0, none⟩ = some (.int .u64 t415) ∧ w25.cell? ⟨gb418, 1, none⟩ = some (.int .u64 t416) := hS_
                    refine norm_ (a' := ?_) ?_ ?_
                    rotate_left
                    ·simp only [putAll, Act.put, q1, q2, q3]
                     rfl
                    refine two_ (i := 2) (j := 14) (Ni := some 30) (Nj := some 17) (ar 18 40383) (ar 18 56763) rfl rfl rfl rfl (two_of HT_.out (by kernel_rfl)) (by decide) (by decide) (fun K hK => ?_) (fun K hK => ?_)
                    ·skip
                     refine goes_ Try.func38 (by kernel_rfl) rfl #[.agg #[.int .u64 t413, .int .u64 t414], .int .u64 a4] (by rfl) rfl rfl (by (try simp only [List.map_toArray, List.map_cons, List.map_nil]); first | done | rfl) ?_
                     with_reducible refine (wardenlaw03_some.calls t413 t414 a4 t419 _ A10.out).mono ?_
                     rintro e w26 ⟨rfl, hb⟩
                     refine ⟨_, rfl, ?_⟩
                     have n0_ := am (blk_below BK417.out hb)
                     have n1_ := am (blk_below BK418.out hb)
                     have n2_ := am (blk_below BK426.out hb)
                     have n3_ := am (below_step (by repeat (first | exact HB.out | refine below_set ?_ GE417.out | refine below_set ?_ GE418.out | refine below_set ?_ GE426.out)) hb)
                     clear BK417
                     clear BK418
                     clear BK426
                     clear HB
                     have BK417 := n0_
                     have BK418 := n1_
                     have BK426 := n2_
                     have HB := n3_
                     clear n0_ n1_ n2_ n3_
                     (try clear hb)
                     (try clear hb2)
                     (try clear hk)
                     (try clear hi)
                     refine hK.out _ _ ⟨(blk_cell BK417.out 0).trans rfl, (blk_cell BK417.out 1).trans rfl, (blk_cell BK418.out 0).trans rfl, (blk_cell BK418.out 1).trans rfl⟩ (fun hHeld => ?_)
                     clear hK K
                     refine norm_ (a' := ?_) ?_ ?_
                     rotate_left
                     ·show Act.put _ (some 30) _ = _
                      simp only [Act.put, q1, q2, q3, i64_w, i32_w]
                      rfl
                     exact norm_ (by first | (simp only [putAll, Act.put, q1, q2, q3]; done) | (simp only [putAll, Act.put, q1, q2, q3]; rfl)) (hJ2_15 (gb426) _ ⟨hHeld, BK417.out, BK418.out, BK426.out, GW426.out, GE426.out, NB417_426.out, NB426_417.out, NB418_426.out, NB426_418.out, (by repeat (first | exact HB.out | refine below_set ?_ GE417.out | refine below_set ?_ GE418.out | refine below_set ?_ GE426.out))⟩)
                    ·skip
                     refine box_step ?hg (N := 17) ?hd (cs := #[.int .u64 0, .int .u64 0]) (t := 24) ?hr ?_; (case hd => rfl); (case hg => rfl); (case hr => first | (go_simp; done) | (go_simp; rfl))
                     intro gb425 hg w26 hbox hb
                     have n0_ := am (blk_below BK417.out hb)
                     have n1_ := am (blk_below BK418.out hb)
                     have n2_ := am (blk_below BK426.out hb)
                     have n3_ := am (below_step (by repeat (first | exact HB.out | refine below_set ?_ GE417.out | refine below_set ?_ GE418.out | refine below_set ?_ GE426.out)) hb)
                     have n4_ := am (hbox)
                     have n5_ := am ((by rw [hg]; exact (below_size (by repeat (first | exact HB.out | refine below_set ?_ GE417.out | refine below_set ?_ GE418.out | refine below_set ?_ GE426.out))) : w.heap.size ≤ gb425))
                     have n6_ := am ((by rw [hg]; exact (below_size (by repeat (first | exact HB.out | refine below_set ?_ GE417.out | refine below_set ?_ GE418.out | refine below_set ?_ GE426.out))) : w.heap.size ≤ gb425))
                     have n7_ := am ((by rw [hg]; exact Nat.ne_of_lt (blk_lt BK417.out) : gb417 ≠ gb425))
                     have n8_ := am ((by rw [hg]; exact Nat.ne_of_gt (blk_lt BK417.out) : gb425 ≠ gb417))
                     have n9_ := am ((by rw [hg]; exact Nat.ne_of_lt (blk_lt BK418.out) : gb418 ≠ gb425))
                     have n10_ := am ((by rw [hg]; exact Nat.ne_of_gt (blk_lt BK418.out) : gb425 ≠ gb418))
                     have n11_ := am ((by rw [hg]; exact Nat.ne_of_lt (blk_lt BK426.out) : gb426 ≠ gb425))
                     have n12_ := am ((by rw [hg]; exact Nat.ne_of_gt (blk_lt BK426.out) : gb425 ≠ gb426))
                     clear BK417
                     clear BK418
                     clear BK426
                     clear HB
                     have BK417 := n0_
                     have BK418 := n1_
                     have BK426 := n2_
                     have HB := n3_
                     have BK425 := n4_
                     have GW425 := n5_
                     have GE425 := n6_
                     have NB417_425 := n7_
                     have NB425_417 := n8_
                     have NB418_425 := n9_
                     have NB425_418 := n10_
                     have NB426_425 := n11_
                     have NB425_426 := n12_
                     clear n0_ n1_ n2_ n3_ n4_ n5_ n6_ n7_ n8_ n9_ n10_ n11_ n12_
                     clear hb hbox hg
                     refine hK.out _ _ ⟨(blk_cell BK417.out 0).trans rfl, (blk_cell BK417.out 1).trans rfl, (blk_cell BK418.out 0).trans rfl, (blk_cell BK418.out 1).trans rfl⟩ (fun hHeld => ?_)
                     clear hK K
                     refine norm_ (a' := ?_) ?_ ?_
                     rotate_left
                     ·show Act.put _ (some 17) _ = _
                      simp only [Act.put, q1, q2, q3, i64_w, i32_w]
                      rfl
                     exact norm_ (by first | (simp only [putAll, Act.put, q1, q2, q3]; done) | (simp only [putAll, Act.put, q1, q2, q3]; rfl)) (hJ14_15 (gb425, gb426) _ ⟨hHeld, BK417.out, BK418.out, BK425.out, BK426.out, GW425.out, GE425.out, NB417_425.out, NB425_417.out, NB418_425.out, NB425_418.out, NB426_425.out, NB425_426.out, GW426.out, GE426.out, NB417_426.out, NB426_417.out, NB418_426.out, NB426_418.out, (by repeat (first | exact HB.out | refine below_set ?_ GE417.out | refine below_set ?_ GE418.out | refine below_set ?_ GE426.out | refine below_set ?_ GE425.out))⟩)
                  ·skip
                   rintro gb425 w25 ⟨hS_, h0_, h1_, h2_, h3_, h4_, h5_, h6_, h7_, h8_, h9_⟩
                   have n0_ : Aside0 (w25.heap[gb417]? = some (.cells #[.int .u64 t413, .int .u64 t414] 24 (0, 0))) := ⟨h0_⟩
                   have n1_ : Aside0 (w25.heap[gb418]? = some (.cells #[.int .u64 t415, .int .u64 t416] 24 (0, 0))) := ⟨h1_⟩
                   have n2_ : Aside0 (w25.heap[gb425]? = some (.cells #[.int .u64 0, .int .u64 0] 24 (0, 0))) := ⟨h2_⟩
                   have n3_ : Aside0 (w.heap.size ≤ gb425) := ⟨h3_⟩
                   have n4_ : Aside0 (w.heap.size ≤ gb425) := ⟨h4_⟩
                   have n5_ : Aside0 (gb417 ≠ gb425) := ⟨h5_⟩
                   have n6_ : Aside0 (gb425 ≠ gb417) := ⟨h6_⟩
                   have n7_ : Aside0 (gb418 ≠ gb425) := ⟨h7_⟩
                   have n8_ : Aside0 (gb425 ≠ gb418) := ⟨h8_⟩
                   have n9_ : Aside0 (Below w.heap.size w w25) := ⟨h9_⟩
                   clear BK417
                   clear BK418
                   clear HB
                   clear h0_ h1_ h2_ h3_ h4_ h5_ h6_ h7_ h8_ h9_
                   have BK417 := n0_
                   have BK418 := n1_
                   have BK425 := n2_
                   have GW425 := n3_
                   have GE425 := n4_
                   have NB417_425 := n5_
                   have NB425_417 := n6_
                   have NB418_425 := n7_
                   have NB425_418 := n8_
                   have HB := n9_
                   clear n0_ n1_ n2_ n3_ n4_ n5_ n6_ n7_ n8_ n9_
                   have hHeld : w25.cell? ⟨gb417, 0, none⟩ = some (.int .u64 t413) ∧ w25.cell? ⟨gb417, 1, none⟩ = some (.int .u64 t414) ∧ w25.cell? ⟨gb418, 0, none⟩ = some (.int .u64 t415) ∧ w25.cell? ⟨gb418, 1, none⟩ = some (.int .u64 t416) := hS_
                   refine norm_ (a' := ?_) ?_ ?_
                   rotate_left
                   ·simp only [putAll, Act.put, q1, q2, q3]
                    rfl
                   refine two_ (i := 2) (j := 15) (Ni := some 30) (Nj := some 18) (ar 18 23999) (ar 18 56763) rfl rfl rfl rfl (two_of HT_.out (by kernel_rfl)) (by decide) (by decide) (fun K hK => ?_) (fun K hK => ?_)
                   ·skip
                    refine goes_ Try.func38 (by kernel_rfl) rfl #[.agg #[.int .u64 t413, .int .u64 t414], .int .u64 a4] (by rfl) rfl rfl (by (try simp only [List.map_toArray, List.map_cons, List.map_nil]); first | done | rfl) ?_
                    with_reducible refine (wardenlaw03_some.calls t413 t414 a4 t419 _ A10.out).mono ?_
                    rintro e w26 ⟨rfl, hb⟩
                    refine ⟨_, rfl, ?_⟩
                    have n0_ := am (blk_below BK417.out hb)
                    have n1_ := am (blk_below BK418.out hb)
                    have n2_ := am (blk_below BK425.out hb)
                    have n3_ := am (below_step (by repeat (first | exact HB.out | refine below_set ?_ GE417.out | refine below_set ?_ GE418.out | refine below_set ?_ GE425.out)) hb)
                    clear BK417
                    clear BK418
                    clear BK425
                    clear HB
                    have BK417 := n0_
                    have BK418 := n1_
                    have BK425 := n2_
                    have HB := n3_
                    clear n0_ n1_ n2_ n3_
                    (try clear hb)
                    (try clear hb2)
                    (try clear hk)
                    (try clear hi)
                    refine hK.out _ _ ⟨(blk_cell BK417.out 0).trans rfl, (blk_cell BK417.out 1).trans rfl, (blk_cell BK418.out 0).trans rfl, (blk_cell BK418.out 1).trans rfl⟩ (fun hHeld => ?_)
                    clear hK K
                    refine norm_ (a' := ?_) ?_ ?_
                    rotate_left
                    ·show Act.put _ (some 30) _ = _
                     simp only [Act.put, q1, q2, q3, i64_w, i32_w]
                     rfl
                    exact norm_ (by first | (simp only [putAll, Act.put, q1, q2, q3]; done) | (simp only [putAll, Act.put, q1, q2, q3]; rfl)) (hJ2_14 (gb425) _ ⟨hHeld, BK417.out, BK418.out, BK425.out, GW425.out, GE425.out, NB417_425.out, NB425_417.out, NB418_425.out, NB425_418.out, (by repeat (first | exact HB.out | refine below_set ?_ GE417.out | refine below_set ?_ GE418.out | refine below_set ?_ GE425.out))⟩)
                   ·skip
                    refine box_step ?hg (N := 18) ?hd (cs := #[.int .u64 0, .int .u64 0]) (t := 24) ?hr ?_; (case hd => rfl); (case hg => rfl); (case hr => first | (go_simp; done) | (go_simp; rfl))
                    intro gb426 hg w26 hbox hb
                    have n0_ := am (blk_below BK417.out hb)
                    have n1_ := am (blk_below BK418.out hb)
                    have n2_ := am (blk_below BK425.out hb)
                    have n3_ := am (below_step (by repeat (first | exact HB.out | refine below_set ?_ GE417.out | refine below_set ?_ GE418.out | refine below_set ?_ GE425.out)) hb)
                    have n4_ := am (hbox)
                    have n5_ := am ((by rw [hg]; exact (below_size (by repeat (first | exact HB.out | refine below_set ?_ GE417.out | refine below_set ?_ GE418.out | refine below_set ?_ GE425.out))) : w.heap.size ≤ gb426))
                    have n6_ := am ((by rw [hg]; exact (below_size (by repeat (first | exact HB.out | refine below_set ?_ GE417.out | refine below_set ?_ GE418.out | refine below_set ?_ GE425.out))) : w.heap.size ≤ gb426))
                    have n7_ := am ((by rw [hg]; exact Nat.ne_of_lt (blk_lt BK417.out) : gb417 ≠ gb426))
                    have n8_ := am ((by rw [hg]; exact Nat.ne_of_gt (blk_lt BK417.out) : gb426 ≠ gb417))
                    have n9_ := am ((by rw [hg]; exact Nat.ne_of_lt (blk_lt BK418.out) : gb418 ≠ gb426))
                    have n10_ := am ((by rw [hg]; exact Nat.ne_of_gt (blk_lt BK418.out) : gb426 ≠ gb418))
                    have n11_ := am ((by rw [hg]; exact Nat.ne_of_lt (blk_lt BK425.out) : gb425 ≠ gb426))
                    have n12_ := am ((by rw [hg]; exact Nat.ne_of_gt (blk_lt BK425.out) : gb426 ≠ gb425))
                    clear BK417
                    clear BK418
                    clear BK425
                    clear HB
                    have BK417 := n0_
                    have BK418 := n1_
                    have BK425 := n2_
                    have HB := n3_
                    have BK426 := n4_
                    have GW426 := n5_
                    have GE426 := n6_
                    have NB417_426 := n7_
                    have NB426_417 := n8_
                    have NB418_426 := n9_
                    have NB426_418 := n10_
                    have NB425_426 := n11_
                    have NB426_425 := n12_
                    clear n0_ n1_ n2_ n3_ n4_ n5_ n6_ n7_ n8_ n9_ n10_ n11_ n12_
                    clear hb hbox hg
                    refine hK.out _ _ ⟨(blk_cell BK417.out 0).trans rfl, (blk_cell BK417.out 1).trans rfl, (blk_cell BK418.out 0).trans rfl, (blk_cell BK418.out 1).trans rfl⟩ (fun hHeld => ?_)
                    clear hK K
                    refine norm_ (a' := ?_) ?_ ?_
                    rotate_left
                    ·show Act.put _ (some 18) _ = _
                     simp only [Act.put, q1, q2, q3, i64_w, i32_w]
                     rfl
                    exact norm_ (by first | (simp only [putAll, Act.put, q1, q2, q3]; done) | (simp only [putAll, Act.put, q1, q2, q3]; rfl)) (hJ14_15 (gb425, gb426) _ ⟨hHeld, BK417.out, BK418.out, BK425.out, BK426.out, GW425.out, GE425.out, NB417_425.out, NB425_417.out, NB418_425.out, NB425_418.out, NB426_425.out, NB425_426.out, GW426.out, GE426.out, NB417_426.out, NB426_417.out, NB418_426.out, NB426_418.out, (by repeat (first | exact HB.out | refine below_set ?_ GE417.out | refine below_set ?_ GE418.out | refine below_set ?_ GE425.out | refine below_set ?_ GE426.out))⟩)
                 ·skip
                  rintro _ w25 ⟨hS_, h0_, h1_, h2_⟩
                  have n0_ : Aside0 (w25.heap[gb417]? = some (.cells #[.int .u64 t413, .int .u64 t414] 24 (0, 0))) := ⟨h0_⟩
                  have n1_ : Aside0 (w25.heap[gb418]? = some (.cells #[.int .u64 t415, .int .u64 t416] 24 (0, 0))) := ⟨h1_⟩
                  have n2_ : Aside0 (Below w.heap.size w w25) := ⟨h2_⟩
                  clear BK417
                  clear BK418
                  clear HB
                  clear h0_ h1_ h2_
                  have BK417 := n0_
                  have BK418 := n1_
                  have HB := n2_
                  clear n0_ n1_ n2_
                  have hHeld : w25.cell? ⟨gb417, 0, none⟩ = some (.int .u64 t413) ∧ w25.cell? ⟨gb417, 1, none⟩ = some (.int .u64 t414) ∧ w25.cell? ⟨gb418, 0, none⟩ = some (.int .u64 t415) ∧ w25.cell? ⟨gb418, 1, none⟩ = some (.int .u64 t416) := hS_
                  refine norm_ (a' := ?_) ?_ ?_
                  rotate_left
                  ·simp only [putAll, Act.put, q1, q2, q3]
                   rfl
                  refine three_ (i := 6) (j := 14) (k := 15) (Ni := some 34) (Nj := some 17) (Nk := some 18) (ar 18 7679) (ar 18 23999) (ar 18 40383) rfl rfl rfl rfl rfl rfl (three_of HT_.out (by kernel_rfl)) (by decide) (by decide) (by decide) (fun K hK => ?_) (fun K hK => ?_) (fun K hK => ?_)
                  ·skip
                   refine goes_ Try.func9 (by kernel_rfl) rfl #[.int .u64 t419, .int .u64 (Go.bits .and .u64 a1 a4)] (by rfl) rfl rfl (by (try simp only [List.map_toArray, List.map_cons, List.map_nil]); first | done | rfl) ?_
                   with_reducible refine (wardenlaw03_of.calls t419 (Go.bits .and .u64 a1 a4) t420 t421 _ A11.out).mono ?_
                   rintro e w26 ⟨rfl, hb⟩
                   refine ⟨_, rfl, ?_⟩
                   have n0_ := am (blk_below BK417.out hb)
                   have n1_ := am (blk_below BK418.out hb)
                   have n2_ := am (below_step (by repeat (first | exact HB.out | refine below_set ?_ GE417.out | refine below_set ?_ GE418.out)) hb)
                   clear BK417
                   clear BK418
                   clear HB
                   have BK417 := n0_
                   have BK418 := n1_
                   have HB := n2_
                   clear n0_ n1_ n2_
                   (try clear hb)
                   (try clear hb2)
                   (try clear hk)
                   (try clear hi)
                   refine hK.out _ _ ⟨(blk_cell BK417.out 0).trans rfl, (blk_cell BK417.out 1).trans rfl, (blk_cell BK418.out 0).trans rfl, (blk_cell BK418.out 1).trans rfl⟩ (fun hHeld => ?_)
                   clear hK K
                   refine norm_ (a' := ?_) ?_ ?_
                   rotate_left
                   ·show Act.put _ (some 34) _ = _
                    simp only [Act.put, q1, q2, q3, i64_w, i32_w]
                    rfl
                   exact norm_ (by first | (simp only [putAll, Act.put, q1, q2, q3]; done) | (simp only [putAll, Act.put, q1, q2, q3]; rfl)) (hJ2_6 () _ ⟨hHeld, BK417.out, BK418.out, (by repeat (first | exact HB.out | refine below_set ?_ GE417.out | refine below_set ?_ GE418.out))⟩)
                  ·skip
                   refine box_step ?hg (N := 17) ?hd (cs := #[.int .u64 0, .int .u64 0]) (t := 24) ?hr ?_; (case hd => rfl); (case hg => rfl); (case hr => first | (go_simp; done) | (go_simp; rfl))
                   intro gb425 hg w26 hbox hb
                   have n0_ := am (blk_below BK417.out hb)
                   have n1_ := am (blk_below BK418.out hb)
                   have n2_ := am (below_step (by repeat (first | exact HB.out | refine below_set ?_ GE417.out | refine below_set ?_ GE418.out)) hb)
                   have n3_ := am (hbox)
                   have n4_ := am ((by rw [hg]; exact (below_size (by repeat (first | exact HB.out | refine below_set ?_ GE417.out | refine below_set ?_ GE418.out))) : w.heap.size ≤ gb425))
                   have n5_ := am ((by rw [hg]; exact (below_size (by repeat (first | exact HB.out | refine below_set ?_ GE417.out | refine below_set ?_ GE418.out))) : w.heap.size ≤ gb425))
                   have n6_ := am ((by rw [hg]; exact Nat.ne_of_lt (blk_lt BK417.out) : gb417 ≠ gb425))
                   have n7_ := am ((by rw [hg]; exact Nat.ne_of_gt (blk_lt BK417.out) : gb425 ≠ gb417))
                   have n8_ := am ((by rw [hg]; exact Nat.ne_of_lt (blk_lt BK418.out) : gb418 ≠ gb425))
                   have n9_ := am ((by rw [hg]; exact Nat.ne_of_gt (blk_lt BK418.out) : gb425 ≠ gb418))
                   clear BK417
                   clear BK418
                   clear HB
                   have BK417 := n0_
                   have BK418 := n1_
                   have HB := n2_
                   have BK425 := n3_
                   have GW425 := n4_
                   have GE425 := n5_
                   have NB417_425 := n6_
                   have NB425_417 := n7_
                   have NB418_425 := n8_
                   have NB425_418 := n9_
                   clear n0_ n1_ n2_ n3_ n4_ n5_ n6_ n7_ n8_ n9_
                   clear hb hbox hg
                   refine hK.out _ _ ⟨(blk_cell BK417.out 0).trans rfl, (blk_cell BK417.out 1).trans rfl, (blk_cell BK418.out 0).trans rfl, (blk_cell BK418.out 1).trans rfl⟩ (fun hHeld => ?_)
                   clear hK K
                   refine norm_ (a' := ?_) ?_ ?_
                   rotate_left
                   ·show Act.put _ (some 17) _ = _
                    simp only [Act.put, q1, q2, q3, i64_w, i32_w]
                    rfl
                   exact norm_ (by first | (simp only [putAll, Act.put, q1, q2, q3]; done) | (simp only [putAll, Act.put, q1, q2, q3]; rfl)) (hJ2_14 (gb425) _ ⟨hHeld, BK417.out, BK418.out, BK425.out, GW425.out, GE425.out, NB417_425.out, NB425_417.out, NB418_425.out, NB425_418.out, (by repeat (first | exact HB.out | refine below_set ?_ GE417.out | refine below_set ?_ GE418.out | refine below_set ?_ GE425.out))⟩)
                  ·skip
                   refine box_step ?hg (N := 18) ?hd (cs := #[.int .u64 0, .int .u64 0]) (t := 24) ?hr ?_; (case hd => rfl); (case hg => rfl); (case hr => first | (go_simp; done) | (go_simp; rfl))
                   intro gb426 hg w26 hbox hb
                   have n0_ := am (blk_below BK417.out hb)
                   have n1_ := am (blk_below BK418.out hb)
                   have n2_ := am (below_step (by repeat (first | exact HB.out | refine below_set ?_ GE417.out | refine below_set ?_ GE418.out)) hb)
                   have n3_ := am (hbox)
                   have n4_ := am ((by rw [hg]; exact (below_size (by repeat (first | exact HB.out | refine below_set ?_ GE417.out | refine below_set ?_ GE418.out))) : w.heap.size ≤ gb426))
                   have n5_ := am ((by rw [hg]; exact (below_size (by repeat (first | exact HB.out | refine below_set ?_ GE417.out | refine below_set ?_ GE418.out))) : w.heap.size ≤ gb426))
                   have n6_ := am ((by rw [hg]; exact Nat.ne_of_lt (blk_lt BK417.out) : gb417 ≠ gb426))
                   have n7_ := am ((by rw [hg]; exact Nat.ne_of_gt (blk_lt BK417.out) : gb426 ≠ gb417))
                   have n8_ := am ((by rw [hg]; exact Nat.ne_of_lt (blk_lt BK418.out) : gb418 ≠ gb426))
                   have n9_ := am ((by rw [hg]; exact Nat.ne_of_gt (blk_lt BK418.out) : gb426 ≠ gb418))
                   clear BK417
                   clear BK418
                   clear HB
                   have BK417 := n0_
                   have BK418 := n1_
                   have HB := n2_
                   have BK426 := n3_
                   have GW426 := n4_
                   have GE426 := n5_
                   have NB417_426 := n6_
                   have NB426_417 := n7_
                   have NB418_426 := n8_
                   have NB426_418 := n9_
                   clear n0_ n1_ n2_ n3_ n4_ n5_ n6_ n7_ n8_ n9_
                   clear hb hbox hg
                   refine hK.out _ _ ⟨(blk_cell BK417.out 0).trans rfl, (blk_cell BK417.out 1).trans rfl, (blk_cell BK418.out 0).trans rfl, (blk_cell BK418.out 1).trans rfl⟩ (fun hHeld => ?_)
                   clear hK K
                   refine norm_ (a' := ?_) ?_ ?_
                   rotate_left
                   ·show Act.put _ (some 18) _ = _
                    simp only [Act.put, q1, q2, q3, i64_w, i32_w]
                    rfl
                   exact norm_ (by first | (simp only [putAll, Act.put, q1, q2, q3]; done) | (simp only [putAll, Act.put, q1, q2, q3]; rfl)) (hJ2_15 (gb426) _ ⟨hHeld, BK417.out, BK418.out, BK426.out, GW426.out, GE426.out, NB417_426.out, NB426_417.out, NB418_426.out, NB426_418.out, (by repeat (first | exact HB.out | refine below_set ?_ GE417.out | refine below_set ?_ GE418.out | refine below_set ?_ GE426.out))⟩)
                ·skip
                 rintro ⟨gb425, gb426⟩ w26 ⟨hS_, h0_, h1_, h2_, h3_, h4_, h5_, h6_, h7_, h8_, h9_, h10_, h11_, h12_, h13_, h14_, h15_, h16_, h17_, h18_⟩
                 have n0_ : Aside0 (w26.heap[gb417]? = some (.cells #[.int .u64 t413, .int .u64 t414] 24 (0, 0))) := ⟨h0_⟩
                 have n1_ : Aside0 (w26.heap[gb418]? = some (.cells #[.int .u64 t415, .int .u64 t416] 24 (0, 0))) := ⟨h1_⟩
                 have n2_ : Aside0 (w26.heap[gb425]? = some (.cells #[.int .u64 0, .int .u64 0] 24 (0, 0))) := ⟨h2_⟩
                 have n3_ : Aside0 (w26.heap[gb426]? = some (.cells #[.int .u64 0, .int .u64 0] 24 (0, 0))) := ⟨h3_⟩
                 have n4_ : Aside0 (w.heap.size ≤ gb425) := ⟨h4_⟩
                 have n5_ : Aside0 (w.heap.size ≤ gb425) := ⟨h5_⟩
                 have n6_ : Aside0 (gb417 ≠ gb425) := ⟨h6_⟩
                 have n7_ : Aside0 (gb425 ≠ gb417) := ⟨h7_⟩
                 have n8_ : Aside0 (gb418 ≠ gb425) := ⟨h8_⟩
                 have n9_ : Aside0 (gb425 ≠ gb418) := ⟨h9_⟩
                 have n10_ : Aside0 (gb426 ≠ gb425) := ⟨h10_⟩
                 have n11_ : Aside0 (gb425 ≠ gb426) := ⟨h11_⟩
                 have n12_ : Aside0 (w.heap.size ≤ gb426) := ⟨h12_⟩
                 have n13_ : Aside0 (w.heap.size ≤ gb426) := ⟨h13_⟩
                 have n14_ : Aside0 (gb417 ≠ gb426) := ⟨h14_⟩
                 have n15_ : Aside0 (gb426 ≠ gb417) := ⟨h15_⟩
                 have n16_ : Aside0 (gb418 ≠ gb426) := ⟨h16_⟩
                 have n17_ : Aside0 (gb426 ≠ gb418) := ⟨h17_⟩
                 have n18_ : Aside0 (Below w.heap.size w w26) := ⟨h18_⟩
                 clear BK417
                 clear BK418
                 clear HB
                 clear h0_ h1_ h2_ h3_ h4_ h5_ h6_ h7_ h8_ h9_ h10_ h11_ h12_ h13_ h14_ h15_ h16_ h17_ h18_
                 have BK417 := n0_
                 have BK418 := n1_
                 have BK425 := n2_
                 have BK426 := n3_
                 have GW425 := n4_
                 have GE425 := n5_
                 have NB417_425 := n6_
                 have NB425_417 := n7_
                 have NB418_425 := n8_
                 have NB425_418 := n9_
                 have NB426_425 := n10_
                 have NB425_426 := n11_
                 have GW426 := n12_
                 have GE426 := n13_
                 have NB417_426 := n14_
                 have NB426_417 := n15_
                 have NB418_426 := n16_
                 have NB426_418 := n17_
                 have HB := n18_
                 clear n0_ n1_ n2_ n3_ n4_ n5_ n6_ n7_ n8_ n9_ n10_ n11_ n12_ n13_ n14_ n15_ n16_ n17_ n18_
                 have hHeld : w26.cell? ⟨gb417, 0, none⟩ = some (.int .u64 t413) ∧ w26.cell? ⟨gb417, 1, none⟩ = some (.int .u64 t414) ∧ w26.cell? ⟨gb418, 0, none⟩ = some (.int .u64 t415) ∧ w26.cell? ⟨gb418, 1, none⟩ = some (.int .u64 t416) := hS_
                 refine norm_ (a' := ?_) ?_ ?_
                 rotate_left
                 ·simp only [putAll, Act.put, q1, q2, q3]
                  rfl
                 refine one_ (i := 2) (N := some 30) (ar 18 56767) rfl rfl (one_of HT_.out (by kernel_rfl)) (by decide) (fun K hK => ?_)
                 refine goes_ Try.func38 (by kernel_rfl) rfl #[.agg #[.int .u64 t413, .int .u64 t414], .int .u64 a4] (by rfl) rfl rfl (by (try simp only [List.map_toArray, List.map_cons, List.map_nil]); first | done | rfl) ?_
                 with_reducible refine (wardenlaw03_some.calls t413 t414 a4 t419 _ A10.out).mono ?_
                 rintro e w27 ⟨rfl, hb⟩
                 refine ⟨_, rfl, ?_⟩
                 have n0_ := am (blk_below BK417.out hb)
                 have n1_ := am (blk_below BK418.out hb)
                 have n2_ := am (blk_below BK425.out hb)
                 have n3_ := am (blk_below BK426.out hb)
                 have n4_ := am (below_step (by repeat (first | exact HB.out | refine below_set ?_ GE417.out | refine below_set ?_ GE418.out | refine below_set ?_ GE425.out | refine below_set ?_ GE426.out)) hb)
                 clear BK417
                 clear BK418
                 clear BK425
                 clear BK426
                 clear HB
                 have BK417 := n0_
                 have BK418 := n1_
                 have BK425 := n2_
                 have BK426 := n3_
                 have HB := n4_
                 clear n0_ n1_ n2_ n3_ n4_
                 (try clear hb)
                 (try clear hb2)
                 (try clear hk)
                 (try clear hi)
                 refine hK.out _ _ ⟨(blk_cell BK417.out 0).trans rfl, (blk_cell BK417.out 1).trans rfl, (blk_cell BK418.out 0).trans rfl, (blk_cell BK418.out 1).trans rfl⟩ (fun hHeld => ?_)
                 clear hK K
                 refine norm_ (a' := ?_) ?_ ?_
                 rotate_left
                 ·show Act.put _ (some 30) _ = _
                  simp only [Act.put, q1, q2, q3, i64_w, i32_w]
                  rfl
                 exact norm_ (by first | (simp only [putAll, Act.put, q1, q2, q3]; done) | (simp only [putAll, Act.put, q1, q2, q3]; rfl)) (hJ2_14_15 (gb425, gb426) _ ⟨hHeld, BK417.out, BK418.out, BK425.out, BK426.out, GW425.out, GE425.out, NB417_425.out, NB425_417.out, NB418_425.out, NB425_418.out, NB426_425.out, NB425_426.out, GW426.out, GE426.out, NB417_426.out, NB426_417.out, NB418_426.out, NB426_418.out, (by repeat (first | exact HB.out | refine below_set ?_ GE417.out | refine below_set ?_ GE418.out | refine below_set ?_ GE425.out | refine below_set ?_ GE426.out))⟩)
               ·skip
                rintro gb426 w26 ⟨hS_, h0_, h1_, h2_, h3_, h4_, h5_, h6_, h7_, h8_, h9_⟩
                have n0_ : Aside0 (w26.heap[gb417]? = some (.cells #[.int .u64 t413, .int .u64 t414] 24 (0, 0))) := ⟨h0_⟩
                have n1_ : Aside0 (w26.heap[gb418]? = some (.cells #[.int .u64 t415, .int .u64 t416] 24 (0, 0))) := ⟨h1_⟩
                have n2_ : Aside0 (w26.heap[gb426]? = some (.cells #[.int .u64 0, .int .u64 0] 24 (0, 0))) := ⟨h2_⟩
                have n3_ : Aside0 (w.heap.size ≤ gb426) := ⟨h3_⟩
                have n4_ : Aside0 (w.heap.size ≤ gb426) := ⟨h4_⟩
                have n5_ : Aside0 (gb417 ≠ gb426) := ⟨h5_⟩
                have n6_ : Aside0 (gb426 ≠ gb417) := ⟨h6_⟩
                have n7_ : Aside0 (gb418 ≠ gb426) := ⟨h7_⟩
                have n8_ : Aside0 (gb426 ≠ gb418) := ⟨h8_⟩
                have n9_ : Aside0 (Below w.heap.size w w26) := ⟨h9_⟩
                clear BK417
                clear BK418
                clear HB
                clear h0_ h1_ h2_ h3_ h4_ h5_ h6_ h7_ h8_ h9_
                have BK417 := n0_
                have BK418 := n1_
                have BK426 := n2_
                have GW426 := n3_
                have GE426 := n4_
                have NB417_426 := n5_
                have NB426_417 := n6_
                have NB418_426 := n7_
                have NB426_418 := n8_
                have HB := n9_
                clear n0_ n1_ n2_ n3_ n4_ n5_ n6_ n7_ n8_ n9_
                have hHeld : w26.cell? ⟨gb417, 0, none⟩ = some (.int .u64 t413) ∧ w26.cell? ⟨gb417, 1, none⟩ = some (.int .u64 t414) ∧ w26.cell? ⟨gb418, 0, none⟩ = some (.int .u64 t415) ∧ w26.cell? ⟨gb418, 1, none⟩ = some (.int .u64 t416) := hS_
                refine norm_ (a' := ?_) ?_ ?_
                rotate_left
                ·simp only [putAll, Act.put, q1, q2, q3]
                 rfl
                refine two_ (i := 6) (j := 14) (Ni := some 34) (Nj := some 17) (ar 18 40447) (ar 18 56767) rfl rfl rfl rfl (two_of HT_.out (by kernel_rfl)) (by decide) (by decide) (fun K hK => ?_) (fun K hK => ?_)
                ·skip
                 refine goes_ Try.func9 (by kernel_rfl) rfl #[.int .u64 t419, .int .u64 (Go.bits .and .u64 a1 a4)] (by rfl) rfl rfl (by (try simp only [List.map_toArray, List.map_cons, List.map_nil]); first | done | rfl) ?_
                 with_reducible refine (wardenlaw03_of.calls t419 (Go.bits .and .u64 a1 a4) t420 t421 _ A11.out).mono ?_
                 rintro e w27 ⟨rfl, hb⟩
                 refine ⟨_, rfl, ?_⟩
                 have n0_ := am (blk_below BK417.out hb)
                 have n1_ := am (blk_below BK418.out hb)
                 have n2_ := am (blk_below BK426.out hb)
                 have n3_ := am (below_step (by repeat (first | exact HB.out | refine below_set ?_ GE417.out | refine below_set ?_ GE418.out | refine below_set ?_ GE426.out)) hb)
                 clear BK417
                 clear BK418
                 clear BK426
                 clear HB
                 have BK417 := n0_
                 have BK418 := n1_
                 have BK426 := n2_
                 have HB := n3_
                 clear n0_ n1_ n2_ n3_
                 (try clear hb)
                 (try clear hb2)
                 (try clear hk)
                 (try clear hi)
                 refine hK.out _ _ ⟨(blk_cell BK417.out 0).trans rfl, (blk_cell BK417.out 1).trans rfl, (blk_cell BK418.out 0).trans rfl, (blk_cell BK418.out 1).trans rfl⟩ (fun hHeld => ?_)
                 clear hK K
                 refine norm_ (a' := ?_) ?_ ?_
                 rotate_left
                 ·show Act.put _ (some 34) _ = _
                  simp only [Act.put, q1, q2, q3, i64_w, i32_w]
                  rfl
                 exact norm_ (by first | (simp only [putAll, Act.put, q1, q2, q3]; done) | (simp only [putAll, Act.put, q1, q2, q3]; rfl)) (hJ2_6_15 (gb426) _ ⟨hHeld, BK417.out, BK418.out, BK426.out, GW426.out, GE426.out, NB417_426.out, NB426_417.out, NB418_426.out, NB426_418.out, (by repeat (first | exact HB.out | refine below_set ?_ GE417.out | refine below_set ?_ GE418.out | refine below_set ?_ GE426.out))⟩)
                ·skip
                 refine box_step ?hg (N := 17) ?hd (cs := #[.int .u64 0, .int .u64 0]) (t := 24) ?hr ?_; (case hd => rfl); (case hg => rfl); (case hr => first | (go_simp; done) | (go_simp; rfl))
                 intro gb425 hg w27 hbox hb
                 have n0_ := am (blk_below BK417.out hb)
                 have n1_ := am (blk_below BK418.out hb)
                 have n2_ := am (blk_below BK426.out hb)
                 have n3_ := am (below_step (by repeat (first | exact HB.out | refine below_set ?_ GE417.out | refine below_set ?_ GE418.out | refine below_set ?_ GE426.out)) hb)
                 have n4_ := am (hbox)
                 have n5_ := am ((by rw [hg]; exact (below_size (by repeat (first | exact HB.out | refine below_set ?_ GE417.out | refine below_set ?_ GE418.out | refine below_set ?_ GE426.out))) : w.heap.size ≤ gb425))
                 have n6_ := am ((by rw [hg]; exact (below_size (by repeat (first | exact HB.out | refine below_set ?_ GE417.out | refine below_set ?_ GE418.out | refine below_set ?_ GE426.out))) : w.heap.size ≤ gb425))
                 have n7_ := am ((by rw [hg]; exact Nat.ne_of_lt (blk_lt BK417.out) : gb417 ≠ gb425))
                 have n8_ := am ((by rw [hg]; exact Nat.ne_of_gt (blk_lt BK417.out) : gb425 ≠ gb417))
                 have n9_ := am ((by rw [hg]; exact Nat.ne_of_lt (blk_lt BK418.out) : gb418 ≠ gb425))
                 have n10_ := am ((by rw [hg]; exact Nat.ne_of_gt (blk_lt BK418.out) : gb425 ≠ gb418))
                 have n11_ := am ((by rw [hg]; exact Nat.ne_of_lt (blk_lt BK426.out) : gb426 ≠ gb425))
                 have n12_ := am ((by rw [hg]; exact Nat.ne_of_gt (blk_lt BK426.out) : gb425 ≠ gb426))
                 clear BK417
                 clear BK418
                 clear BK426
                 clear HB
                 have BK417 := n0_
                 have BK418 := n1_
                 have BK426 := n2_
                 have HB := n3_
                 have BK425 := n4_
                 have GW425 := n5_
                 have GE425 := n6_
                 have NB417_425 := n7_
                 have NB425_417 := n8_
                 have NB418_425 := n9_
                 have NB425_418 := n10_
                 have NB426_425 := n11_
                 have NB425_426 := n12_
                 clear n0_ n1_ n2_ n3_ n4_ n5_ n6_ n7_ n8_ n9_ n10_ n11_ n12_
                 clear hb hbox hg
                 refine hK.out _ _ ⟨(blk_cell BK417.out 0).trans rfl, (blk_cell BK417.out 1).trans rfl, (blk_cell BK418.out 0).trans rfl, (blk_cell BK418.out 1).trans rfl⟩ (fun hHeld => ?_)
                 clear hK K
                 refine norm_ (a' := ?_) ?_ ?_
                 rotate_left
                 ·show Act.put _ (some 17) _ = _
                  simp only [Act.put, q1, q2, q3, i64_w, i32_w]
                  rfl
                 exact norm_ (by first | (simp only [putAll, Act.put, q1, q2, q3]; done) | (simp only [putAll, Act.put, q1, q2, q3]; rfl)) (hJ2_14_15 (gb425, gb426) _ ⟨hHeld, BK417.out, BK418.out, BK425.out, BK426.out, GW425.out, GE425.out, NB417_425.out, NB425_417.out, NB418_425.out, NB425_418.out, NB426_425.out, NB425_426.out, GW426.out, GE426.out, NB417_426.out, NB426_417.out, NB418_426.out, NB426_418.out, (by repeat (first | exact HB.out | refine below_set ?_ GE417.out | refine below_set ?_ GE418.out | refine below_set ?_ GE426.out | refine below_set ?_ GE425.out))⟩)
              ·skip
               rintro gb425 w26 ⟨hS_, h0_, h1_, h2_, h3_, h4_, h5_, h6_, h7_, h8_, h9_⟩
               have n0_ : Aside0 (w26.heap[gb417]? = some (.cells #[.int .u64 t413, .int .u64 t414] 24 (0, 0))) := ⟨h0_⟩
               have n1_ : Aside0 (w26.heap[gb418]? = some (.cells #[.int .u64 t415, .int .u64 t416] 24 (0, 0))) := ⟨h1_⟩
               have n2_ : Aside0 (w26.heap[gb425]? = some (.cells #[.int .u64 0, .int .u64 0] 24 (0, 0))) := ⟨h2_⟩
               have n3_ : Aside0 (w.heap.size ≤ gb425) := ⟨h3_⟩
               have n4_ : Aside0 (w.heap.size ≤ gb425) := ⟨h4_⟩
               have n5_ : Aside0 (gb417 ≠ gb425) := ⟨h5_⟩
               have n6_ : Aside0 (gb425 ≠ gb417) := ⟨h6_⟩
               have n7_ : Aside0 (gb418 ≠ gb425) := ⟨h7_⟩
               have n8_ : Aside0 (gb425 ≠ gb418) := ⟨h8_⟩
               have n9_ : Aside0 (Below w.heap.size w w26) := ⟨h9_⟩
               clear BK417
               clear BK418
               clear HB
               clear h0_ h1_ h2_ h3_ h4_ h5_ h6_ h7_ h8_ h9_
               have BK417 := n0_
               have BK418 := n1_
               have BK425 := n2_
               have GW425 := n3_
               have GE425 := n4_
               have NB417_425 := n5_
               have NB425_417 := n6_
               have NB418_425 := n7_
               have NB425_418 := n8_
               have HB := n9_
               clear n0_ n1_ n2_ n3_ n4_ n5_ n6_ n7_ n8_ n9_
               have hHeld : w26.cell? ⟨gb417, 0, none⟩ = some (.int .u64 t413) ∧ w26.cell? ⟨gb417, 1, none⟩ = some (.int .u64 t414) ∧ w26.cell? ⟨gb418, 0, none⟩ = some (.int .u64 t415) ∧ w26.cell? ⟨gb418, 1, none⟩ = some (.int .u64 t416) := hS_
               refine norm_ (a' := ?_) ?_ ?_
               rotate_left
               ·simp only [putAll, Act.put, q1, q2, q3]
                rfl
               refine two_ (i := 6) (j := 15) (Ni := some 34) (Nj := some 18) (ar 18 24063) (ar 18 56767) rfl rfl rfl rfl (two_of HT_.out (by kernel_rfl)) (by decide) (by decide) (fun K hK => ?_) (fun K hK => ?_)
               ·skip
                refine goes_ Try.func9 (by kernel_rfl) rfl #[.int .u64 t419, .int .u64 (Go.bits .and .u64 a1 a4)] (by rfl) rfl rfl (by (try simp only [List.map_toArray, List.map_cons, List.map_nil]); first | done | rfl) ?_
                with_reducible refine (wardenlaw03_of.calls t419 (Go.bits .and .u64 a1 a4) t420 t421 _ A11.out).mono ?_
                rintro e w27 ⟨rfl, hb⟩
                refine ⟨_, rfl, ?_⟩
                have n0_ := am (blk_below BK417.out hb)
                have n1_ := am (blk_below BK418.out hb)
                have n2_ := am (blk_below BK425.out hb)
                have n3_ := am (below_step (by repeat (first | exact HB.out | refine below_set ?_ GE417.out | refine below_set ?_ GE418.out | refine below_set ?_ GE425.out)) hb)
                clear BK417
                clear BK418
                clear BK425
                clear HB
                have BK417 := n0_
                have BK418 := n1_
                have BK425 := n2_
                have HB := n3_
                clear n0_ n1_ n2_ n3_
                (try clear hb)
                (try clear hb2)
                (try clear hk)
                (try clear hi)
                refine hK.out _ _ ⟨(blk_cell BK417.out 0).trans rfl, (blk_cell BK417.out 1).trans rfl, (blk_cell BK418.out 0).trans rfl, (blk_cell BK418.out 1).trans rfl⟩ (fun hHeld => ?_)
                clear hK K
                refine norm_ (a' := ?_) ?_ ?_
                rotate_left
                ·show Act.put _ (some 34) _ = _
                 simp only [Act.put, q1, q2, q3, i64_w, i32_w]
                 rfl
                exact norm_ (by first | (simp only [putAll, Act.put, q1, q2, q3]; done) | (simp only [putAll, Act.put, q1, q2, q3]; rfl)) (hJ2_6_14 (gb425) _ ⟨hHeld, BK417.out, BK418.out, BK425.out, GW425.out, GE425.out, NB417_425.out, NB425_417.out, NB418_425.out, NB425_418.out, (by repeat (first | exact HB.out | refine below_set ?_ GE417.out | refine below_set ?_ GE418.out | refine below_set ?_ GE425.out))⟩)
               ·skip
                refine box_step ?hg (N := 18) ?hd (cs := #[.int .u64 0, .int .u64 0]) (t := 24) ?hr ?_; (case hd => rfl); (case hg => rfl); (case hr => first | (go_simp; done) | (go_simp; rfl))
                intro gb426 hg w27 hbox hb
                have n0_ := am (blk_below BK417.out hb)
                have n1_ := am (blk_below BK418.out hb)
                have n2_ := am (blk_below BK425.out hb)
                have n3_ := am (below_step (by repeat (first | exact HB.out | refine below_set ?_ GE417.out | refine below_set ?_ GE418.out | refine below_set ?_ GE425.out)) hb)
                have n4_ := am (hbox)
                have n5_ := am ((by rw [hg]; exact (below_size (by repeat (first | exact HB.out | refine below_set ?_ GE417.out | refine below_set ?_ GE418.out | refine below_set ?_ GE425.out))) : w.heap.size ≤ gb426))
                have n6_ := am ((by rw [hg]; exact (below_size (by repeat (first | exact HB.out | refine below_set ?_ GE417.out | refine below_set ?_ GE418.out | refine below_set ?_ GE425.out))) : w.heap.size ≤ gb426))
                have n7_ := am ((by rw [hg]; exact Nat.ne_of_lt (blk_lt BK417.out) : gb417 ≠ gb426))
                have n8_ := am ((by rw [hg]; exact Nat.ne_of_gt (blk_lt BK417.out) : gb426 ≠ gb417))
                have n9_ := am ((by rw [hg]; exact Nat.ne_of_lt (blk_lt BK418.out) : gb418 ≠ gb426))
                have n10_ := am ((by rw [hg]; exact Nat.ne_of_gt (blk_lt BK418.out) : gb426 ≠ gb418))
                have n11_ := am ((by rw [hg]; exact Nat.ne_of_lt (blk_lt BK425.out) : gb425 ≠ gb426))
                have n12_ := am ((by rw [hg]; exact Nat.ne_of_gt (blk_lt BK425.out) : gb426 ≠ gb425))
                clear BK417
                clear BK418
                clear BK425
                clear HB
                have BK417 := n0_
                have BK418 := n1_
                have BK425 := n2_
                have HB := n3_
                have BK426 := n4_
                have GW426 := n5_
                have GE426 := n6_
                have NB417_426 := n7_
                have NB426_417 := n8_
                have NB418_426 := n9_
                have NB426_418 := n10_
                have NB425_426 := n11_
                have NB426_425 := n12_
                clear n0_ n1_ n2_ n3_ n4_ n5_ n6_ n7_ n8_ n9_ n10_ n11_ n12_
                clear hb hbox hg
                refine hK.out _ _ ⟨(blk_cell BK417.out 0).trans rfl, (blk_cell BK417.out 1).trans rfl, (blk_cell BK418.out 0).trans rfl, (blk_cell BK418.out 1).trans rfl⟩ (fun hHeld => ?_)
                clear hK K
                refine norm_ (a' := ?_) ?_ ?_
                rotate_left
                ·show Act.put _ (some 18) _ = _
                 simp only [Act.put, q1, q2, q3, i64_w, i32_w]
                 rfl
                exact norm_ (by first | (simp only [putAll, Act.put, q1, q2, q3]; done) | (simp only [putAll, Act.put, q1, q2, q3]; rfl)) (hJ2_14_15 (gb425, gb426) _ ⟨hHeld, BK417.out, BK418.out, BK425.out, BK426.out, GW425.out, GE425.out, NB417_425.out, NB425_417.out, NB418_425.out, NB425_418.out, NB426_425.out, NB425_426.out, GW426.out, GE426.out, NB417_426.out, NB426_417.out, NB418_426.out, NB426_418.out, (by repeat (first | exact HB.out | refine below_set ?_ GE417.out | refine below_set ?_ GE418.out | refine below_set ?_ GE425.out | refine below_set ?_ GE426.out))⟩)
             ·skip
              rintro _ w26 ⟨hS_, h0_, h1_, h2_⟩
              have n0_ : Aside0 (w26.heap[gb417]? = some (.cells #[.int .u64 t413, .int .u64 t414] 24 (0, 0))) := ⟨h0_⟩
              have n1_ : Aside0 (w26.heap[gb418]? = some (.cells #[.int .u64 t415, .int .u64 t416] 24 (0, 0))) := ⟨h1_⟩
              have n2_ : Aside0 (Below w.heap.size w w26) := ⟨h2_⟩
              clear BK417
              clear BK418
              clear HB
              clear h0_ h1_ h2_
              have BK417 := n0_
              have BK418 := n1_
              have HB := n2_
              clear n0_ n1_ n2_
              have hHeld : w26.cell? ⟨gb417, 0, none⟩ = some (.int .u64 t413) ∧ w26.cell? ⟨gb417, 1, none⟩ = some (.int .u64 t414) ∧ w26.cell? ⟨gb418, 0, none⟩ = some (.int .u64 t415) ∧ w26.cell? ⟨gb418, 1, none⟩ = some (.int .u64 t416) := hS_
              refine norm_ (a' := ?_) ?_ ?_
              rotate_left
              ·simp only [putAll, Act.put, q1, q2, q3]
               rfl
              refine three_ (i := 9) (j := 14) (k := 15) (Ni := some 37) (Nj := some 17) (Nk := some 18) (ar 18 8191) (ar 18 24063) (ar 18 40447) rfl rfl rfl rfl rfl rfl (three_of HT_.out (by kernel_rfl)) (by decide) (by decide) (by decide) (fun K hK => ?_) (fun K hK => ?_) (fun K hK => ?_)
              ·skip
               refine goes_ Try.func38 (by kernel_rfl) rfl #[.agg #[.int .u64 t415, .int .u64 t416], .int .u64 a5] (by rfl) rfl rfl (by (try simp only [List.map_toArray, List.map_cons, List.map_nil]); first | done | rfl) ?_
               with_reducible refine (wardenlaw03_some.calls t415 t416 a5 t422 _ A12.out).mono ?_
               rintro e w27 ⟨rfl, hb⟩
               refine ⟨_, rfl, ?_⟩
               have n0_ := am (blk_below BK417.out hb)
               have n1_ := am (blk_below BK418.out hb)
               have n2_ := am (below_step (by repeat (first | exact HB.out | refine below_set ?_ GE417.out | refine below_set ?_ GE418.out)) hb)
               clear BK417
               clear BK418
               clear HB
               have BK417 := n0_
               have BK418 := n1_
               have HB := n2_
               clear n0_ n1_ n2_
               (try clear hb)
               (try clear hb2)
               (try clear hk)
               (try clear hi)
               refine hK.out _ _ ⟨(blk_cell BK417.out 0).trans rfl, (blk_cell BK417.out 1).trans rfl, (blk_cell BK418.out 0).trans rfl, (blk_cell BK418.out 1).trans rfl⟩ (fun hHeld => ?_)
               clear hK K
               refine norm_ (a' := ?_) ?_ ?_
               rotate_left
               ·show Act.put _ (some 37) _ = _
                simp only [Act.put, q1, q2, q3, i64_w, i32_w]
                rfl
               exact norm_ (by first | (simp only [putAll, Act.put, q1, q2, q3]; done) | (simp only [putAll, Act.put, q1, q2, q3]; rfl)) (hJ2_6_9 () _ ⟨hHeld, BK417.out, BK418.out, (by repeat (first | exact HB.out | refine below_set ?_ GE417.out | refine below_set ?_ GE418.out))⟩)
              ·skip
               refine box_step ?hg (N := 17) ?hd (cs := #[.int .u64 0, .int .u64 0]) (t := 24) ?hr ?_; (case hd => rfl); (case hg => rfl); (case hr => first | (go_simp; done) | (go_simp; rfl))
               intro gb425 hg w27 hbox hb
               have n0_ := am (blk_below BK417.out hb)
               have n1_ := am (blk_below BK418.out hb)
               have n2_ := am (below_step (by repeat (first | exact HB.out | refine below_set ?_ GE417.out | refine below_set ?_ GE418.out)) hb)
               have n3_ := am (hbox)
               have n4_ := am ((by rw [hg]; exact (below_size (by repeat (first | exact HB.out | refine below_set ?_ GE417.out | refine below_set ?_ GE418.out))) : w.heap.size ≤ gb425))
               have n5_ := am ((by rw [hg]; exact (below_size (by repeat (first | exact HB.out | refine below_set ?_ GE417.out | refine below_set ?_ GE418.out))) : w.heap.size ≤ gb425))
               have n6_ := am ((by rw [hg]; exact Nat.ne_of_lt (blk_lt BK417.out) : gb417 ≠ gb425))
               have n7_ := am ((by rw [hg]; exact Nat.ne_of_gt (blk_lt BK417.out) : gb425 ≠ gb417))
               have n8_ := am ((by rw [hg]; exact Nat.ne_of_lt (blk_lt BK418.out) : gb418 ≠ gb425))
               have n9_ := am ((by rw [hg]; exact Nat.ne_of_gt (blk_lt BK418.out) : gb425 ≠ gb418))
               clear BK417
               clear BK418
               clear HB
               have BK417 := n0_
               have BK418 := n1_
               have HB := n2_
               have BK425 := n3_
               have GW425 := n4_
               have GE425 := n5_
               have NB417_425 := n6_
               have NB425_417 := n7_
               have NB418_425 := n8_
               have NB425_418 := n9_
               clear n0_ n1_ n2_ n3_ n4_ n5_ n6_ n7_ n8_ n9_
               clear hb hbox hg
               refine hK.out _ _ ⟨(blk_cell BK417.out 0).trans rfl, (blk_cell BK417.out 1).trans rfl, (blk_cell BK418.out 0).trans rfl, (blk_cell BK418.out 1).trans rfl⟩ (fun hHeld => ?_)
               clear hK K
               refine norm_ (a' := ?_) ?_ ?_
               rotate_left
               ·show Act.put _ (some 17) _ = _
                simp only [Act.put, q1, q2, q3, i64_w, i32_w]
                rfl
               exact norm_ (by first | (simp only [putAll, Act.put, q1, q2, q3]; done) | (simp only [putAll, Act.put, q1, q2, q3]; rfl)) (hJ2_6_14 (gb425) _ ⟨hHeld, BK417.out, BK418.out, BK425.out, GW425.out, GE425.out, NB417_425.out, NB425_417.out, NB418_425.out, NB425_418.out, (by repeat (first | exact HB.out | refine below_set ?_ GE417.out | refine below_set ?_ GE418.out | refine below_set ?_ GE425.out))⟩)
              ·skip
               refine box_step ?hg (N := 18) ?hd (cs := #[.int .u64 0, .int .u64 0]) (t := 24) ?hr ?_; (case hd => rfl); (case hg => rfl); (case hr => first | (go_simp; done) | (go_simp; rfl))
               intro gb426 hg w27 hbox hb
               have n0_ := am (blk_below BK417.out hb)
               have n1_ := am (blk_below BK418.out hb)
               have n2_ := am (below_step (by repeat (first | exact HB.out | refine below_set ?_ GE417.out | refine below_set ?_ GE418.out)) hb)
               have n3_ := am (hbox)
               have n4_ := am ((by rw [hg]; exact (below_size (by repeat (first | exact HB.out | refine below_set ?_ GE417.out | refine below_set ?_ GE418.out))) : w.heap.size ≤ gb426))
               have n5_ := am ((by rw [hg]; exact (below_size (by repeat (first | exact HB.out | refine below_set ?_ GE417.out | refine below_set ?_ GE418.out))) : w.heap.size ≤ gb426))
               have n6_ := am ((by rw [hg]; exact Nat.ne_of_lt (blk_lt BK417.out) : gb417 ≠ gb426))
               have n7_ := am ((by rw [hg]; exact Nat.ne_of_gt (blk_lt BK417.out) : gb426 ≠ gb417))
               have n8_ := am ((by rw [hg]; exact Nat.ne_of_lt (blk_lt BK418.out) : gb418 ≠ gb426))
               have n9_ := am ((by rw [hg]; exact Nat.ne_of_gt (blk_lt BK418.out) : gb426 ≠ gb418))
               clear BK417
               clear BK418
               clear HB
               have BK417 := n0_
               have BK418 := n1_
               have HB := n2_
               have BK426 := n3_
               have GW426 := n4_
               have GE426 := n5_
               have NB417_426 := n6_
               have NB426_417 := n7_
               have NB418_426 := n8_
               have NB426_418 := n9_
               clear n0_ n1_ n2_ n3_ n4_ n5_ n6_ n7_ n8_ n9_
               clear hb hbox hg
               refine hK.out _ _ ⟨(blk_cell BK417.out 0).trans rfl, (blk_cell BK417.out 1).trans rfl, (blk_cell BK418.out 0).trans rfl, (blk_cell BK418.out 1).trans rfl⟩ (fun hHeld => ?_)
               clear hK K
               refine norm_ (a' := ?_) ?_ ?_
               rotate_left
               ·show Act.put _ (some 18) _ = _
                simp only [Act.put, q1, q2, q3, i64_w, i32_w]
                rfl
               exact norm_ (by first | (simp only [putAll, Act.put, q1, q2, q3]; done) | (simp only [putAll, Act.put, q1, q2, q3]; rfl)) (hJ2_6_15 (gb426) _ ⟨hHeld, BK417.out, BK418.out, BK426.out, GW426.out, GE426.out, NB417_426.out, NB426_417.out, NB418_426.out, NB426_418.out, (by repeat (first | exact HB.out | refine below_set ?_ GE417.out | refine below_set ?_ GE418.out | refine below_set ?_ GE426.out))⟩)
            ·skip
             rintro ⟨gb425, gb426⟩ w27 ⟨hS_, h0_, h1_, h2_, h3_, h4_, h5_, h6_, h7_, h8_, h9_, h10_, h11_, h12_, h13_, h14_, h15_, h16_, h17_, h18_⟩
             have n0_ : Aside0 (w27.heap[gb417]? = some (.cells #[.int .u64 t413, .int .u64 t414] 24 (0, 0))) := ⟨h0_⟩
             have n1_ : Aside0 (w27.heap[gb418]? = some (.cells #[.int .u64 t415, .int .u64 t416] 24 (0, 0))) := ⟨h1_⟩
             have n2_ : Aside0 (w27.heap[gb425]? = some (.cells #[.int .u64 0, .int .u64 0] 24 (0, 0))) := ⟨h2_⟩
             have n3_ : Aside0 (w27.heap[gb426]? = some (.cells #[.int .u64 0, .int .u64 0] 24 (0, 0))) := ⟨h3_⟩
             have n4_ : Aside0 (w.heap.size ≤ gb425) := ⟨h4_⟩
             have n5_ : Aside0 (w.heap.size ≤ gb425) := ⟨h5_⟩
             have n6_ : Aside0 (gb417 ≠ gb425) := ⟨h6_⟩
             have n7_ : Aside0 (gb425 ≠ gb417) := ⟨h7_⟩
             have n8_ : Aside0 (gb418 ≠ gb425) := ⟨h8_⟩
             have n9_ : Aside0 (gb425 ≠ gb418) := ⟨h9_⟩
             have n10_ : Aside0 (gb426 ≠ gb425) := ⟨h10_⟩
             have n11_ : Aside0 (gb425 ≠ gb426) := ⟨h11_⟩
             have n12_ : Aside0 (w.heap.size ≤ gb426) := ⟨h12_⟩
             have n13_ : Aside0 (w.heap.size ≤ gb426) := ⟨h13_⟩
             have n14_ : Aside0 (gb417 ≠ gb426) := ⟨h14_⟩
             have n15_ : Aside0 (gb426 ≠ gb417) := ⟨h15_⟩
             have n16_ : Aside0 (gb418 ≠ gb426) := ⟨h16_⟩
             have n17_ : Aside0 (gb426 ≠ gb418) := ⟨h17_⟩
             have n18_ : Aside0 (Below w.heap.size w w27) := ⟨h18_⟩
             clear BK417
             clear BK418
             clear HB
             clear h0_ h1_ h2_ h3_ h4_ h5_ h6_ h7_ h8_ h9_ h10_ h11_ h12_ h13_ h14_ h15_ h16_ h17_ h18_
             have BK417 := n0_
             have BK418 := n1_
             have BK425 := n2_
             have BK426 := n3_
             have GW425 := n4_
             have GE425 := n5_
             have NB417_425 := n6_
             have NB425_417 := n7_
             have NB418_425 := n8_
             have NB425_418 := n9_
             have NB426_425 := n10_
             have NB425_426 := n11_
             have GW426 := n12_
             have GE426 := n13_
             have NB417_426 := n14_
             have NB426_417 := n15_
             have NB418_426 := n16_
             have NB426_418 := n17_
             have HB := n18_
             clear n0_ n1_ n2_ n3_ n4_ n5_ n6_ n7_ n8_ n9_ n10_ n11_ n12_ n13_ n14_ n15_ n16_ n17_ n18_
             have hHeld : w27.cell? ⟨gb417, 0, none⟩ = some (.int .u64 t413) ∧ w27.cell? ⟨gb417, 1, none⟩ = some (.int .u64 t414) ∧ w27.cell? ⟨gb418, 0, none⟩ = some (.int .u64 t415) ∧ w27.cell? ⟨gb418, 1, none⟩ = some (.int .u64 t416) := hS_
             refine norm_ (a' := ?_) ?_ ?_
             rotate_left
             ·simp only [putAll, Act.put, q1, q2, q3]
              rfl
             refine one_ (i := 6) (N := some 34) (ar 18 56831) rfl rfl (one_of HT_.out (by kernel_rfl)) (by decide) (fun K hK => ?_)
             refine goes_ Try.func9 (by kernel_rfl) rfl #[.int .u64 t419, .int .u64 (Go.bits .and .u64 a1 a4)] (by rfl) rfl rfl (by (try simp only [List.map_toArray, List.map_cons, List.map_nil]); first | done | rfl) ?_
             with_reducible refine (wardenlaw03_of.calls t419 (Go.bits .and .u64 a1 a4) t420 t421 _ A11.out).mono ?_
             rintro e w28 ⟨rfl, hb⟩
             refine ⟨_, rfl, ?_⟩
             have n0_ := am (blk_below BK417.out hb)
             have n1_ := am (blk_below BK418.out hb)
             have n2_ := am (blk_below BK425.out hb)
             have n3_ := am (blk_below BK426.out hb)
             have n4_ := am (below_step (by repeat (first | exact HB.out | refine below_set ?_ GE417.out | refine below_set ?_ GE418.out | refine below_set ?_ GE425.out | refine below_set ?_ GE426.out)) hb)
             clear BK417
             clear BK418
             clear BK425
             clear BK426
             clear HB
             have BK417 := n0_
             have BK418 := n1_
             have BK425 := n2_
             have BK426 := n3_
             have HB := n4_
             clear n0_ n1_ n2_ n3_ n4_
             (try clear hb)
             (try clear hb2)
             (try clear hk)
             (try clear hi)
             refine hK.out _ _ ⟨(blk_cell BK417.out 0).trans rfl, (blk_cell BK417.out 1).trans rfl, (blk_cell BK418.out 0).trans rfl, (blk_cell BK418.out 1).trans rfl⟩ (fun hHeld => ?_)
             clear hK K
             refine norm_ (a' := ?_) ?_ ?_
             rotate_left
             ·show Act.put _ (some 34) _ = _
              simp only [Act.put, q1, q2, q3, i64_w, i32_w]
              rfl
             exact norm_ (by first | (simp only [putAll, Act.put, q1, q2, q3]; done) | (simp only [putAll, Act.put, q1, q2, q3]; rfl)) (hJ2_6_14_15 (gb425, gb426) _ ⟨hHeld, BK417.out, BK418.out, BK425.out, BK426.out, GW425.out, GE425.out, NB417_425.out, NB425_417.out, NB418_425.out, NB425_418.out, NB426_425.out, NB425_426.out, GW426.out, GE426.out, NB417_426.out, NB426_417.out, NB418_426.out, NB426_418.out, (by repeat (first | exact HB.out | refine below_set ?_ GE417.out | refine below_set ?_ GE418.out | refine below_set ?_ GE425.out | refine below_set ?_ GE426.out))⟩)
           ·skip
            rintro gb426 w27 ⟨hS_, h0_, h1_, h2_, h3_, h4_, h5_, h6_, h7_, h8_, h9_⟩
            have n0_ : Aside0 (w27.heap[gb417]? = some (.cells #[.int .u64 t413, .int .u64 t414] 24 (0, 0))) := ⟨h0_⟩
            have n1_ : Aside0 (w27.heap[gb418]? = some (.cells #[.int .u64 t415, .int .u64 t416] 24 (0, 0))) := ⟨h1_⟩
            have n2_ : Aside0 (w27.heap[gb426]? = some (.cells #[.int .u64 0, .int .u64 0] 24 (0, 0))) := ⟨h2_⟩
            have n3_ : Aside0 (w.heap.size ≤ gb426) := ⟨h3_⟩
            have n4_ : Aside0 (w.heap.size ≤ gb426) := ⟨h4_⟩
            have n5_ : Aside0 (gb417 ≠ gb426) := ⟨h5_⟩
            have n6_ : Aside0 (gb426 ≠ gb417) := ⟨h6_⟩
            have n7_ : Aside0 (gb418 ≠ gb426) := ⟨h7_⟩
            have n8_ : Aside0 (gb426 ≠ gb418) := ⟨h8_⟩
            have n9_ : Aside0 (Below w.heap.size w w27) := ⟨h9_⟩
            clear BK417
            clear BK418
            clear HB
            clear h0_ h1_ h2_ h3_ h4_ h5_ h6_ h7_ h8_ h9_
            have BK417 := n0_
            have BK418 := n1_
            have BK426 := n2_
            have GW426 := n3_
            have GE426 := n4_
            have NB417_426 := n5_
            have NB426_417 := n6_
            have NB418_426 := n7_
            have NB426_418 := n8_
            have HB := n9_
            clear n0_ n1_ n2_ n3_ n4_ n5_ n6_ n7_ n8_ n9_
            have hHeld : w27.cell? ⟨gb417, 0, none⟩ = some (.int .u64 t413) ∧ w27.cell? ⟨gb417, 1, none⟩ = some (.int .u64 t414) ∧ w27.cell? ⟨gb418, 0, none⟩ = some (.int .u64 t415) ∧ w27.cell? ⟨gb418, 1, none⟩ = some (.int .u64 t416) := hS_
            refine norm_ (a' := ?_) ?_ ?_
            rotate_left
            ·simp only [putAll, Act.put, q1, q2, q3]
             rfl
            refine two_ (i := 9) (j := 14) (Ni := some 37) (Nj := some 17) (ar 18 40959) (ar 18 56831) rfl rfl rfl rfl (two_of HT_.out (by kernel_rfl)) (by decide) (by decide) (fun K hK => ?_) (fun K hK => ?_)
            ·skip
             refine goes_ Try.func38 (by kernel_rfl) rfl #[.agg #[.int .u64 t415, .int .u64 t416], .int .u64 a5] (by rfl) rfl rfl (by (try simp only [List.map_toArray, List.map_cons, List.map_nil]); first | done | rfl) ?_
             with_reducible refine (wardenlaw03_some.calls t415 t416 a5 t422 _ A12.out).mono ?_
             rintro e w28 ⟨rfl, hb⟩
             refine ⟨_, rfl, ?_⟩
             have n0_ := am (blk_below BK417.out hb)
             have n1_ := am (blk_below BK418.out hb)
             have n2_ := am (blk_below BK426.out hb)
             have n3_ := am (below_step (by repeat (first | exact HB.out | refine below_set ?_ GE417.out | refine below_set ?_ GE418.out | refine below_set ?_ GE426.out)) hb)
             clear BK417
             clear BK418
             clear BK426
             clear HB
             have BK417 := n0_
             have BK418 := n1_
             have BK426 := n2_
             have HB := n3_
             clear n0_ n1_ n2_ n3_
             (try clear hb)
             (try clear hb2)
             (try clear hk)
             (try clear hi)
             refine hK.out _ _ ⟨(blk_cell BK417.out 0).trans rfl, (blk_cell BK417.out 1).trans rfl, (blk_cell BK418.out 0).trans rfl, (blk_cell BK418.out 1).trans rfl⟩ (fun hHeld => ?_)
             clear hK K
             refine norm_ (a' := ?_) ?_ ?_
             rotate_left
             ·show Act.put _ (some 37) _ = _
              simp only [Act.put, q1, q2, q3, i64_w, i32_w]
              rfl
             exact norm_ (by first | (simp only [putAll, Act.put, q1, q2, q3]; done) | (simp only [putAll, Act.put, q1, q2, q3]; rfl)) (hJ2_6_9_15 (gb426) _ ⟨hHeld, BK417.out, BK418.out, BK426.out, GW426.out, GE426.out, NB417_426.out, NB426_417.out, NB418_426.out, NB426_418.out, (by repeat (first | exact HB.out | refine below_set ?_ GE417.out | refine below_set ?_ GE418.out | refine below_set ?_ GE426.out))⟩)
            ·skip
             refine box_step ?hg (N := 17) ?hd (cs := #[.int .u64 0, .int .u64 0]) (t := 24) ?hr ?_; (case hd => rfl); (case hg => rfl); (case hr => first | (go_simp; done) | (go_simp; rfl))
             intro gb425 hg w28 hbox hb
             have n0_ := am (blk_below BK417.out hb)
             have n1_ := am (blk_below BK418.out hb)
             have n2_ := am (blk_below BK426.out hb)
             have n3_ := am (below_step (by repeat (first | exact HB.out | refine below_set ?_ GE417.out | refine below_set ?_ GE418.out | refine below_set ?_ GE426.out)) hb)
             have n4_ := am (hbox)
             have n5_ := am ((by rw [hg]; exact (below_size (by repeat (first | exact HB.out | refine below_set ?_ GE417.out | refine below_set ?_ GE418.out | refine below_set ?_ GE426.out))) : w.heap.size ≤ gb425))
             have n6_ := am ((by rw [hg]; exact (below_size (by repeat (first | exact HB.out | refine below_set ?_ GE417.out | refine below_set ?_ GE418.out | refine below_set ?_ GE426.out))) : w.heap.size ≤ gb425))
             have n7_ := am ((by rw [hg]; exact Nat.ne_of_lt (blk_lt BK417.out) : gb417 ≠ gb425))
             have n8_ := am ((by rw [hg]; exact Nat.ne_of_gt (blk_lt BK417.out) : gb425 ≠ gb417))
             have n9_ := am ((by rw [hg]; exact Nat.ne_of_lt (blk_lt BK418.out) : gb418 ≠ gb425))
             have n10_ := am ((by rw [hg]; exact Nat.ne_of_gt (blk_lt BK418.out) : gb425 ≠ gb418))
             have n11_ := am ((by rw [hg]; exact Nat.ne_of_lt (blk_lt BK426.out) : gb426 ≠ gb425))
             have n12_ := am ((by rw [hg]; exact Nat.ne_of_gt (blk_lt BK426.out) : gb425 ≠ gb426))
             clear BK417
             clear BK418
             clear BK426
             clear HB
             have BK417 := n0_
             have BK418 := n1_
             have BK426 := n2_
             have HB := n3_
             have BK425 := n4_
             have GW425 := n5_
             have GE425 := n6_
             have NB417_425 := n7_
             have NB425_417 := n8_
             have NB418_425 := n9_
             have NB425_418 := n10_
             have NB426_425 := n11_
             have NB425_426 := n12_
             clear n0_ n1_ n2_ n3_ n4_ n5_ n6_ n7_ n8_ n9_ n10_ n11_ n12_
             clear hb hbox hg
             refine hK.out _ _ ⟨(blk_cell BK417.out 0).trans rfl, (blk_cell BK417.out 1).trans rfl, (blk_cell BK418.out 0).trans rfl, (blk_cell BK418.out 1).trans rfl⟩ (fun hHeld => ?_)
             clear hK K
             refine norm_ (a' := ?_) ?_ ?_
             rotate_left
             ·show Act.put _ (some 17) _ = _
              simp only [Act.put, q1, q2, q3, i64_w, i32_w]
              rfl
             exact norm_ (by first | (simp only [putAll, Act.put, q1, q2, q3]; done) | (simp only [putAll, Act.put, q1, q2, q3]; rfl)) (hJ2_6_14_15 (gb425, gb426) _ ⟨hHeld, BK417.out, BK418.out, BK425.out, BK426.out, GW425.out, GE425.out, NB417_425.out, NB425_417.out, NB418_425.out, NB425_418.out, NB426_425.out, NB425_426.out, GW426.out, GE426.out, NB417_426.out, NB426_417.out, NB418_426.out, NB426_418.out, (by repeat (first | exact HB.out | refine below_set ?_ GE417.out | refine below_set ?_ GE418.out | refine below_set ?_ GE426.out | refine below_set ?_ GE425.out))⟩)
          ·skip
           rintro gb425 w27 ⟨hS_, h0_, h1_, h2_, h3_, h4_, h5_, h6_, h7_, h8_, h9_⟩
           have n0_ : Aside0 (w27.heap[gb417]? = some (.cells #[.int .u64 t413, .int .u64 t414] 24 (0, 0))) := ⟨h0_⟩
           have n1_ : Aside0 (w27.heap[gb418]? = some (.cells #[.int .u64 t415, .int .u64 t416] 24 (0, 0))) := ⟨h1_⟩
           have n2_ : Aside0 (w27.heap[gb425]? = some (.cells #[.int .u64 0, .int .u64 0] 24 (0, 0))) := ⟨h2_⟩
           have n3_ : Aside0 (w.heap.size ≤ gb425) := ⟨h3_⟩
           have n4_ : Aside0 (w.heap.size ≤ gb425) := ⟨h4_⟩
           have n5_ : Aside0 (gb417 ≠ gb425) := ⟨h5_⟩
           have n6_ : Aside0 (gb425 ≠ gb417) := ⟨h6_⟩
           have n7_ : Aside0 (gb418 ≠ gb425) := ⟨h7_⟩
           have n8_ : Aside0 (gb425 ≠ gb418) := ⟨h8_⟩
           have n9_ : Aside0 (Below w.heap.size w w27) := ⟨h9_⟩
           clear BK417
           clear BK418
           clear HB
           clear h0_ h1_ h2_ h3_ h4_ h5_ h6_ h7_ h8_ h9_
           have BK417 := n0_
           have BK418 := n1_
           have BK425 := n2_
           have GW425 := n3_
           have GE425 := n4_
           have NB417_425 := n5_
           have NB425_417 := n6_
           have NB418_425 := n7_
           have NB425_418 := n8_
           have HB := n9_
           clear n0_ n1_ n2_ n3_ n4_ n5_ n6_ n7_ n8_ n9_
           have hHeld : w27.cell? ⟨gb417, 0, none⟩ = some (.int .u64 t413) ∧ w27.cell? ⟨gb417, 1, none⟩ = some (.int .u64 t414) ∧ w27.cell? ⟨gb418, 0, none⟩ = some (.int .u64 t415) ∧ w27.cell? ⟨gb418, 1, none⟩ = some (.int .u64 t416) := hS_
           refine norm_ (a' := ?_) ?_ ?_
           rotate_left
           ·simp only [putAll, Act.put, q1, q2, q3]
            rfl
           refine two_ (i := 9) (j := 15) (Ni := some 37) (Nj := some 18) (ar 18 24575) (ar 18 56831) rfl rfl rfl rfl (two_of HT_.out (by kernel_rfl)) (by decide) (by decide) (fun K hK => ?_) (fun K hK => ?_)
           ·skip
            refine goes_ Try.func38 (by kernel_rfl) rfl #[.agg #[.int .u64 t415, .int .u64 t416], .int .u64 a5] (by rfl) rfl rfl (by (try simp only [List.map_toArray, List.map_cons, List.map_nil]); first | done | rfl) ?_
            with_reducible refine (wardenlaw03_some.calls t415 t416 a5 t422 _ A12.out).mono ?_
            rintro e w28 ⟨rfl, hb⟩
            refine ⟨_, rfl, ?_⟩
            have n0_ := am (blk_below BK417.out hb)
            have n1_ := am (blk_below BK418.out hb)
            have n2_ := am (blk_below BK425.out hb)
            have n3_ := am (below_step (by repeat (first | exact HB.out | refine below_set ?_ GE417.out | refine below_set ?_ GE418.out | refine below_set ?_ GE425.out)) hb)
            clear BK417
            clear BK418
            clear BK425
            clear HB
            have BK417 := n0_
            have BK418 := n1_
            have BK425 := n2_
            have HB := n3_
            clear n0_ n1_ n2_ n3_
            (try clear hb)
            (try clear hb2)
            (try clear hk)
            (try clear hi)
            refine hK.out _ _ ⟨(blk_cell BK417.out 0).trans rfl, (blk_cell BK417.out 1).trans rfl, (blk_cell BK418.out 0).trans rfl, (blk_cell BK418.out 1).trans rfl⟩ (fun hHeld => ?_)
            clear hK K
            refine norm_ (a' := ?_) ?_ ?_
            rotate_left
            ·show Act.put _ (some 37) _ = _
             simp only [Act.put, q1, q2, q3, i64_w, i32_w]
             rfl
            exact norm_ (by first | (simp only [putAll, Act.put, q1, q2, q3]; done) | (simp only [putAll, Act.put, q1, q2, q3]; rfl)) (hJ2_6_9_14 (gb425) _ ⟨hHeld, BK417.out, BK418.out, BK425.out, GW425.out, GE425.out, NB417_425.out, NB425_417.out, NB418_425.out, NB425_418.out, (by repeat (first | exact HB.out | refine below_set ?_ GE417.out | refine below_set ?_ GE418.out | refine below_set ?_ GE425.out))⟩)
           ·skip
            refine box_step ?hg (N := 18) ?hd (cs := #[.int .u64 0, .int .u64 0]) (t := 24) ?hr ?_; (case hd => rfl); (case hg => rfl); (case hr => first | (go_simp; done) | (go_simp; rfl))
            intro gb426 hg w28 hbox hb
            have n0_ := am (blk_below BK417.out hb)
            have n1_ := am (blk_below BK418.out hb)
            have n2_ := am (blk_below BK425.out hb)
            have n3_ := am (below_step (by repeat (first | exact HB.out | refine below_set ?_ GE417.out | refine below_set ?_ GE418.out | refine below_set ?_ GE425.out)) hb)
            have n4_ := am (hbox)
            have n5_ := am ((by rw [hg]; exact (below_size (by repeat (first | exact HB.out | refine below_set ?_ GE417.out | refine below_set ?_ GE418.out | refine below_set ?_ GE425.out))) : w.heap.size ≤ gb426))
            have n6_ := am ((by rw [hg]; exact (below_size (by repeat (first | exact HB.out | refine below_set ?_ GE417.out | refine below_set ?_ GE418.out | refine below_set ?_ GE425.out))) : w.heap.size ≤ gb426))
            have n7_ := am ((by rw [hg]; exact Nat.ne_of_lt (blk_lt BK417.out) : gb417 ≠ gb426))
            have n8_ := am ((by rw [hg]; exact Nat.ne_of_gt (blk_lt BK417.out) : gb426 ≠ gb417))
            have n9_ := am ((by rw [hg]; exact Nat.ne_of_lt (blk_lt BK418.out) : gb418 ≠ gb426))
            have n10_ := am ((by rw [hg]; exact Nat.ne_of_gt (blk_lt BK418.out) : gb426 ≠ gb418))
            have n11_ := am ((by rw [hg]; exact Nat.ne_of_lt (blk_lt BK425.out) : gb425 ≠ gb426))
            have n12_ := am ((by rw [hg]; exact Nat.ne_of_gt (blk_lt BK425.out) : gb426 ≠ gb425))
            clear BK417
            clear BK418
            clear BK425
            clear HB
            have BK417 := n0_
            have BK418 := n1_
            have BK425 := n2_
            have HB := n3_
            have BK426 := n4_
            have GW426 := n5_
            have GE426 := n6_
            have NB417_426 := n7_
            have NB426_417 := n8_
            have NB418_426 := n9_
            have NB426_418 := n10_
            have NB425_426 := n11_
            have NB426_425 := n12_
            clear n0_ n1_ n2_ n3_ n4_ n5_ n6_ n7_ n8_ n9_ n10_ n11_ n12_
            clear hb hbox hg
            refine hK.out _ _ ⟨(blk_cell BK417.out 0).trans rfl, (blk_cell BK417.out 1).trans rfl, (blk_cell BK418.out 0).trans rfl, (blk_cell BK418.out 1).trans rfl⟩ (fun hHeld => ?_)
            clear hK K
            refine norm_ (a' := ?_) ?_ ?_
            rotate_left
            ·show Act.put _ (some 18) _ = _
             simp only [Act.put, q1, q2, q3, i64_w, i32_w]
             rfl
            exact norm_ (by first | (simp only [putAll, Act.put, q1, q2, q3]; done) | (simp only [putAll, Act.put, q1, q2, q3]; rfl)) (hJ2_6_14_15 (gb425, gb426) _ ⟨hHeld, BK417.out, BK418.out, BK425.out, BK426.out, GW425.out, GE425.out, NB417_425.out, NB425_417.out, NB418_425.out, NB425_418.out, NB426_425.out, NB425_426.out, GW426.out, GE426.out, NB417_426.out, NB426_417.out, NB418_426.out, NB426_418.out, (by repeat (first | exact HB.out | refine below_set ?_ GE417.out | refine below_set ?_ GE418.out | refine below_set ?_ GE425.out | refine below_set ?_ GE426.out))⟩)
         ·skip
          rintro _ w27 ⟨hS_, h0_, h1_, h2_⟩
          have n0_ : Aside0 (w27.heap[gb417]? = some (.cells #[.int .u64 t413, .int .u64 t414] 24 (0, 0))) := ⟨h0_⟩
          have n1_ : Aside0 (w27.heap[gb418]? = some (.cells #[.int .u64 t415, .int .u64 t416] 24 (0, 0))) := ⟨h1_⟩
          have n2_ : Aside0 (Below w.heap.size w w27) := ⟨h2_⟩
          clear BK417
          clear BK418
          clear HB
          clear h0_ h1_ h2_
          have BK417 := n0_
          have BK418 := n1_
          have HB := n2_
          clear n0_ n1_ n2_
          have hHeld : w27.cell? ⟨gb417, 0, none⟩ = some (.int .u64 t413) ∧ w27.cell? ⟨gb417, 1, none⟩ = some (.int .u64 t414) ∧ w27.cell? ⟨gb418, 0, none⟩ = some (.int .u64 t415) ∧ w27.cell? ⟨gb418, 1, none⟩ = some (.int .u64 t416) := hS_
          refine norm_ (a' := ?_) ?_ ?_
          rotate_left
          ·simp only [putAll, Act.put, q1, q2, q3]
           rfl
          refine three_ (i := 13) (j := 14) (k := 15) (Ni := some 41) (Nj := some 17) (Nk := some 18) (ar 18 16383) (ar 18 24575) (ar 18 40959) rfl rfl rfl rfl rfl rfl (three_of HT_.out (by kernel_rfl)) (by decide) (by decide) (by decide) (fun K hK => ?_) (fun K hK => ?_) (fun K hK => ?_)
          ·skip
           refine goes_ Try.func9 (by kernel_rfl) rfl #[.int .u64 t422, .int .u64 (Go.bits .and .u64 a3 a5)] (by rfl) rfl rfl (by (try simp only [List.map_toArray, List.map_cons, List.map_nil]); first | done | rfl) ?_
           with_reducible refine (wardenlaw03_of.calls t422 (Go.bits .and .u64 a3 a5) t423 t424 _ A13.out).mono ?_
           rintro e w28 ⟨rfl, hb⟩
           refine ⟨_, rfl, ?_⟩
           have n0_ := am (blk_below BK417.out hb)
           have n1_ := am (blk_below BK418.out hb)
           have n2_ := am (below_step (by repeat (first | exact HB.out | refine below_set ?_ GE417.out | refine below_set ?_ GE418.out)) hb)
           clear BK417
           clear BK418
           clear HB
           have BK417 := n0_
           have BK418 := n1_
           have HB := n2_
           clear n0_ n1_ n2_
           (try clear hb)
           (try clear hb2)
           (try clear hk)
           (try clear hi)
           refine hK.out _ _ ⟨(blk_cell BK417.out 0).trans rfl, (blk_cell BK417.out 1).trans rfl, (blk_cell BK418.out 0).trans rfl, (blk_cell BK418.out 1).trans rfl⟩ (fun hHeld => ?_)
           clear hK K
           refine norm_ (a' := ?_) ?_ ?_
           rotate_left
           ·show Act.put _ (some 41) _ = _
            simp only [Act.put, q1, q2, q3, i64_w, i32_w]
            rfl
           exact norm_ (by first | (simp only [putAll, Act.put, q1, q2, q3]; done) | (simp only [putAll, Act.put, q1, q2, q3]; rfl)) (hJ2_6_9_13 () _ ⟨hHeld, BK417.out, BK418.out, (by repeat (first | exact HB.out | refine below_set ?_ GE417.out | refine below_set ?_ GE418.out))⟩)
          ·skip
           refine box_step ?hg (N := 17) ?hd (cs := #[.int .u64 0, .int .u64 0]) (t := 24) ?hr ?_; (case hd => rfl); (case hg => rfl); (case hr => first | (go_simp; done) | (go_simp; rfl))
           intro gb425 hg w28 hbox hb
           have n0_ := am (blk_below BK417.out hb)
           have n1_ := am (blk_below BK418.out hb)
           have n2_ := am (below_step (by repeat (first | exact HB.out | refine below_set ?_ GE417.out | refine below_set ?_ GE418.out)) hb)
           have n3_ := am (hbox)
           have n4_ := am ((by rw [hg]; exact (below_size (by repeat (first | exact HB.out | refine below_set ?_ GE417.out | refine below_set ?_ GE418.out))) : w.heap.size ≤ gb425))
           have n5_ := am ((by rw [hg]; exact (below_size (by repeat (first | exact HB.out | refine below_set ?_ GE417.out | refine below_set ?_ GE418.out))) : w.heap.size ≤ gb425))
           have n6_ := am ((by rw [hg]; exact Nat.ne_of_lt (blk_lt BK417.out) : gb417 ≠ gb425))
           have n7_ := am ((by rw [hg]; exact Nat.ne_of_gt (blk_lt BK417.out) : gb425 ≠ gb417))
           have n8_ := am ((by rw [hg]; exact Nat.ne_of_lt (blk_lt BK418.out) : gb418 ≠ gb425))
           have n9_ := am ((by rw [hg]; exact Nat.ne_of_gt (blk_lt BK418.out) : gb425 ≠ gb418))
           clear BK417
           clear BK418
           clear HB
           have BK417 := n0_
           have BK418 := n1_
           have HB := n2_
           have BK425 := n3_
           have GW425 := n4_
           have GE425 := n5_
           have NB417_425 := n6_
           have NB425_417 := n7_
           have NB418_425 := n8_
           have NB425_418 := n9_
           clear n0_ n1_ n2_ n3_ n4_ n5_ n6_ n7_ n8_ n9_
           clear hb hbox hg
           refine hK.out _ _ ⟨(blk_cell BK417.out 0).trans rfl, (blk_cell BK417.out 1).trans rfl, (blk_cell BK418.out 0).trans rfl, (blk_cell BK418.out 1).trans rfl⟩ (fun hHeld => ?_)
           clear hK K
           refine norm_ (a' := ?_) ?_ ?_
           rotate_left
           ·show Act.put _ (some 17) _ = _
            simp only [Act.put, q1, q2, q3, i64_w, i32_w]
            rfl
           exact norm_ (by first | (simp only [putAll, Act.put, q1, q2, q3]; done) | (simp only [putAll, Act.put, q1, q2, q3]; rfl)) (hJ2_6_9_14 (gb425) _ ⟨hHeld, BK417.out, BK418.out, BK425.out, GW425.out, GE425.out, NB417_425.out, NB425_417.out, NB418_425.out, NB425_418.out, (by repeat (first | exact HB.out | refine below_set ?_ GE417.out | refine below_set ?_ GE418.out | refine below_set ?_ GE425.out))⟩)
          ·skip
           refine box_step ?hg (N := 18) ?hd (cs := #[.int .u64 0, .int .u64 0]) (t := 24) ?hr ?_; (case hd => rfl); (case hg => rfl); (case hr => first | (go_simp; done) | (go_simp; rfl))
           intro gb426 hg w28 hbox hb
           have n0_ := am (blk_below BK417.out hb)
           have n1_ := am (blk_below BK418.out hb)
           have n2_ := am (below_step (by repeat (first | exact HB.out | refine below_set ?_ GE417.out | refine below_set ?_ GE418.out)) hb)
           have n3_ := am (hbox)
           have n4_ := am ((by rw [hg]; exact (below_size (by repeat (first | exact HB.out | refine below_set ?_ GE417.out | refine below_set ?_ GE418.out))) : w.heap.size ≤ gb426))
           have n5_ := am ((by rw [hg]; exact (below_size (by repeat (first | exact HB.out | refine below_set ?_ GE417.out | refine below_set ?_ GE418.out))) : w.heap.size ≤ gb426))
           have n6_ := am ((by rw [hg]; exact Nat.ne_of_lt (blk_lt BK417.out) : gb417 ≠ gb426))
           have n7_ := am ((by rw [hg]; exact Nat.ne_of_gt (blk_lt BK417.out) : gb426 ≠ gb417))
           have n8_ := am ((by rw [hg]; exact Nat.ne_of_lt (blk_lt BK418.out) : gb418 ≠ gb426))
           have n9_ := am ((by rw [hg]; exact Nat.ne_of_gt (blk_lt BK418.out) : gb426 ≠ gb418))
           clear BK417
           clear BK418
           clear HB
           have BK417 := n0_
           have BK418 := n1_
           have HB := n2_
           have BK426 := n3_
           have GW426 := n4_
           have GE426 := n5_
           have NB417_426 := n6_
           have NB426_417 := n7_
           have NB418_426 := n8_
           have NB426_418 := n9_
           clear n0_ n1_ n2_ n3_ n4_ n5_ n6_ n7_ n8_ n9_
           clear hb hbox hg
           refine hK.out _ _ ⟨(blk_cell BK417.out 0).trans rfl, (blk_cell BK417.out 1).trans rfl, (blk_cell BK418.out 0).trans rfl, (blk_cell BK418.out 1).trans rfl⟩ (fun hHeld => ?_)
           clear hK K
           refine norm_ (a' := ?_) ?_ ?_
           rotate_left
           ·show Act.put _ (some 18) _ = _
            simp only [Act.put, q1, q2, q3, i64_w, i32_w]
            rfl
           exact norm_ (by first | (simp only [putAll, Act.put, q1, q2, q3]; done) | (simp only [putAll, Act.put, q1, q2, q3]; rfl)) (hJ2_6_9_15 (gb426) _ ⟨hHeld, BK417.out, BK418.out, BK426.out, GW426.out, GE426.out, NB417_426.out, NB426_417.out, NB418_426.out, NB426_418.out, (by repeat (first | exact HB.out | refine below_set ?_ GE417.out | refine below_set ?_ GE418.out | refine below_set ?_ GE426.out))⟩)
        ·skip
         rintro ⟨gb425, gb426⟩ w28 ⟨hS_, h0_, h1_, h2_, h3_, h4_, h5_, h6_, h7_, h8_, h9_, h10_, h11_, h12_, h13_, h14_, h15_, h16_, h17_, h18_⟩
         have n0_ : Aside0 (w28.heap[gb417]? = some (.cells #[.int .u64 t413, .int .u64 t414] 24 (0, 0))) := ⟨h0_⟩
         have n1_ : Aside0 (w28.heap[gb418]? = some (.cells #[.int .u64 t415, .int .u64 t416] 24 (0, 0))) := ⟨h1_⟩
         have n2_ : Aside0 (w28.heap[gb425]? = some (.cells #[.int .u64 0, .int .u64 0] 24 (0, 0))) := ⟨h2_⟩
         have n3_ : Aside0 (w28.heap[gb426]? = some (.cells #[.int .u64 0, .int .u64 0] 24 (0, 0))) := ⟨h3_⟩
         have n4_ : Aside0 (w.heap.size ≤ gb425) := ⟨h4_⟩
         have n5_ : Aside0 (w.heap.size ≤ gb425) := ⟨h5_⟩
         have n6_ : Aside0 (gb417 ≠ gb425) := ⟨h6_⟩
         have n7_ : Aside0 (gb425 ≠ gb417) := ⟨h7_⟩
         have n8_ : Aside0 (gb418 ≠ gb425) := ⟨h8_⟩
         have n9_ : Aside0 (gb425 ≠ gb418) := ⟨h9_⟩
         have n10_ : Aside0 (gb426 ≠ gb425) := ⟨h10_⟩
         have n11_ : Aside0 (gb425 ≠ gb426) := ⟨h11_⟩
         have n12_ : Aside0 (w.heap.size ≤ gb426) := ⟨h12_⟩
         have n13_ : Aside0 (w.heap.size ≤ gb426) := ⟨h13_⟩
         have n14_ : Aside0 (gb417 ≠ gb426) := ⟨h14_⟩
         have n15_ : Aside0 (gb426 ≠ gb417) := ⟨h15_⟩
         have n16_ : Aside0 (gb418 ≠ gb426) := ⟨h16_⟩
         have n17_ : Aside0 (gb426 ≠ gb418) := ⟨h17_⟩
         have n18_ : Aside0 (Below w.heap.size w w28) := ⟨h18_⟩
         clear BK417
         clear BK418
         clear HB
         clear h0_ h1_ h2_ h3_ h4_ h5_ h6_ h7_ h8_ h9_ h10_ h11_ h12_ h13_ h14_ h15_ h16_ h17_ h18_
         have BK417 := n0_
         have BK418 := n1_
         have BK425 := n2_
         have BK426 := n3_
         have GW425 := n4_
         have GE425 := n5_
         have NB417_425 := n6_
         have NB425_417 := n7_
         have NB418_425 := n8_
         have NB425_418 := n9_
         have NB426_425 := n10_
         have NB425_426 := n11_
         have GW426 := n12_
         have GE426 := n13_
         have NB417_426 := n14_
         have NB426_417 := n15_
         have NB418_426 := n16_
         have NB426_418 := n17_
         have HB := n18_
         clear n0_ n1_ n2_ n3_ n4_ n5_ n6_ n7_ n8_ n9_ n10_ n11_ n12_ n13_ n14_ n15_ n16_ n17_ n18_
         have hHeld : w28.cell? ⟨gb417, 0, none⟩ = some (.int .u64 t413) ∧ w28.cell? ⟨gb417, 1, none⟩ = some (.int .u64 t414) ∧ w28.cell? ⟨gb418, 0, none⟩ = some (.int .u64 t415) ∧ w28.cell? ⟨gb418, 1, none⟩ = some (.int .u64 t416) := hS_
         refine norm_ (a' := ?_) ?_ ?_
         rotate_left
         ·simp only [putAll, Act.put, q1, q2, q3]
          rfl
         refine one_ (i := 9) (N := some 37) (ar 18 57343) rfl rfl (one_of HT_.out (by kernel_rfl)) (by decide) (fun K hK => ?_)
         refine goes_ Try.func38 (by kernel_rfl) rfl #[.agg #[.int .u64 t415, .int .u64 t416], .int .u64 a5] (by rfl) rfl rfl (by (try simp only [List.map_toArray, List.map_cons, List.map_nil]); first | done | rfl) ?_
         with_reducible refine (wardenlaw03_some.calls t415 t416 a5 t422 _ A12.out).mono ?_
         rintro e w29 ⟨rfl, hb⟩
         refine ⟨_, rfl, ?_⟩
         have n0_ := am (blk_below BK417.out hb)
         have n1_ := am (blk_below BK418.out hb)
         have n2_ := am (blk_below BK425.out hb)
         have n3_ := am (blk_below BK426.out hb)
         have n4_ := am (below_step (by repeat (first | exact HB.out | refine below_set ?_ GE417.out | refine below_set ?_ GE418.out | refine below_set ?_ GE425.out | refine below_set ?_ GE426.out)) hb)
         clear BK417
         clear BK418
         clear BK425
         clear BK426
         clear HB
         have BK417 := n0_
         have BK418 := n1_
         have BK425 := n2_
         have BK426 := n3_
         have HB := n4_
         clear n0_ n1_ n2_ n3_ n4_
         (try clear hb)
         (try clear hb2)
         (try clear hk)
         (try clear hi)
         refine hK.out _ _ ⟨(blk_cell BK417.out 0).trans rfl, (blk_cell BK417.out 1).trans rfl, (blk_cell BK418.out 0).trans rfl, (blk_cell BK418.out 1).trans rfl⟩ (fun hHeld => ?_)
         clear hK K
         refine norm_ (a' := ?_) ?_ ?_
         rotate_left
         ·show Act.put _ (some 37) _ = _
          simp only [Act.put, q1, q2, q3, i64_w, i32_w]
          rfl
         exact norm_ (by first | (simp only [putAll, Act.put, q1, q2, q3]; done) | (simp only [putAll, Act.put, q1, q2, q3]; rfl)) (hJ2_6_9_14_15 (gb425, gb426) _ ⟨hHeld, BK417.out, BK418.out, BK425.out, BK426.out, GW425.out, GE425.out, NB417_425.out, NB425_417.out, NB418_425.out, NB425_418.out, NB426_425.out, NB425_426.out, GW426.out, GE426.out, NB417_426.out, NB426_417.out, NB418_426.out, NB426_418.out, (by repeat (first | exact HB.out | refine below_set ?_ GE417.out | refine below_set ?_ GE418.out | refine below_set ?_ GE425.out | refine below_set ?_ GE426.out))⟩)
       ·skip
        rintro gb426 w28 ⟨hS_, h0_, h1_, h2_, h3_, h4_, h5_, h6_, h7_, h8_, h9_⟩
        have n0_ : Aside0 (w28.heap[gb417]? = some (.cells #[.int .u64 t413, .int .u64 t414] 24 (0, 0))) := ⟨h0_⟩
        have n1_ : Aside0 (w28.heap[gb418]? = some (.cells #[.int .u64 t415, .int .u64 t416] 24 (0, 0))) := ⟨h1_⟩
        have n2_ : Aside0 (w28.heap[gb426]? = some (.cells #[.int .u64 0, .int .u64 0] 24 (0, 0))) := ⟨h2_⟩
        have n3_ : Aside0 (w.heap.size ≤ gb426) := ⟨h3_⟩
        have n4_ : Aside0 (w.heap.size ≤ gb426) := ⟨h4_⟩
        have n5_ : Aside0 (gb417 ≠ gb426) := ⟨h5_⟩
        have n6_ : Aside0 (gb426 ≠ gb417) := ⟨h6_⟩
        have n7_ : Aside0 (gb418 ≠ gb426) := ⟨h7_⟩
        have n8_ : Aside0 (gb426 ≠ gb418) := ⟨h8_⟩
        have n9_ : Aside0 (Below w.heap.size w w28) := ⟨h9_⟩
        clear BK417
        clear BK418
        clear HB
        clear h0_ h1_ h2_ h3_ h4_ h5_ h6_ h7_ h8_ h9_
        have BK417 := n0_
        have BK418 := n1_
        have BK426 := n2_
        have GW426 := n3_
        have GE426 := n4_
        have NB417_426 := n5_
        have NB426_417 := n6_
        have NB418_426 := n7_
        have NB426_418 := n8_
        have HB := n9_
        clear n0_ n1_ n2_ n3_ n4_ n5_ n6_ n7_ n8_ n9_
        have hHeld : w28.cell? ⟨gb417, 0, none⟩ = some (.int .u64 t413) ∧ w28.cell? ⟨gb417, 1, none⟩ = some (.int .u64 t414) ∧ w28.cell? ⟨gb418, 0, none⟩ = some (.int .u64 t415) ∧ w28.cell? ⟨gb418, 1, none⟩ = some (.int .u64 t416) := hS_
        refine norm_ (a' := ?_) ?_ ?_
        rotate_left
        ·simp only [putAll, Act.put, q1, q2, q3]
         rfl
        refine two_ (i := 13) (j := 14) (Ni := some 41) (Nj := some 17) (ar 18 49151) (ar 18 57343) rfl rfl rfl rfl (two_of HT_.out (by kernel_rfl)) (by decide) (by decide) (fun K hK => ?_) (fun K hK => ?_)
        ·skip
         refine goes_ Try.func9 (by kernel_rfl) rfl #[.int .u64 t422, .int .u64 (Go.bits .and .u64 a3 a5)] (by rfl) rfl rfl (by (try simp only [List.map_toArray, List.map_cons, List.map_nil]); first | done | rfl) ?_
         with_reducible refine (wardenlaw03_of.calls t422 (Go.bits .and .u64 a3 a5) t423 t424 _ A13.out).mono ?_
         rintro e w29 ⟨rfl, hb⟩
         refine ⟨_, rfl, ?_⟩
         have n0_ := am (blk_below BK417.out hb)
         have n1_ := am (blk_below BK418.out hb)
         have n2_ := am (blk_below BK426.out hb)
         have n3_ := am (below_step (by repeat (first | exact HB.out | refine below_set ?_ GE417.out | refine below_set ?_ GE418.out | refine below_set ?_ GE426.out)) hb)
         clear BK417
         clear BK418
         clear BK426
         clear HB
         have BK417 := n0_
         have BK418 := n1_
         have BK426 := n2_
         have HB := n3_
         clear n0_ n1_ n2_ n3_
         (try clear hb)
         (try clear hb2)
         (try clear hk)
         (try clear hi)
         refine hK.out _ _ ⟨(blk_cell BK417.out 0).trans rfl, (blk_cell BK417.out 1).trans rfl, (blk_cell BK418.out 0).trans rfl, (blk_cell BK418.out 1).trans rfl⟩ (fun hHeld => ?_)
         clear hK K
         refine norm_ (a' := ?_) ?_ ?_
         rotate_left
         ·show Act.put _ (some 41) _ = _
          simp only [Act.put, q1, q2, q3, i64_w, i32_w]
          rfl
         exact norm_ (by first | (simp only [putAll, Act.put, q1, q2, q3]; done) | (simp only [putAll, Act.put, q1, q2, q3]; rfl)) (hJ2_6_9_13_15 (gb426) _ ⟨hHeld, BK417.out, BK418.out, BK426.out, GW426.out, GE426.out, NB417_426.out, NB426_417.out, NB418_426.out, NB426_418.out, (by repeat (first | exact HB.out | refine below_set ?_ GE417.out | refine below_set ?_ GE418.out | refine below_set ?_ GE426.out))⟩)
        ·skip
         refine box_step ?hg (N := 17) ?hd (cs := #[.int .u64 0, .int .u64 0]) (t := 24) ?hr ?_; (case hd => rfl); (case hg => rfl); (case hr => first | (go_simp; done) | (go_simp; rfl))
         intro gb425 hg w29 hbox hb
         have n0_ := am (blk_below BK417.out hb)
         have n1_ := am (blk_below BK418.out hb)
         have n2_ := am (blk_below BK426.out hb)
         have n3_ := am (below_step (by repeat (first | exact HB.out | refine below_set ?_ GE417.out | refine below_set ?_ GE418.out | refine below_set ?_ GE426.out)) hb)
         have n4_ := am (hbox)
         have n5_ := am ((by rw [hg]; exact (below_size (by repeat (first | exact HB.out | refine below_set ?_ GE417.out | refine below_set ?_ GE418.out | refine below_set ?_ GE426.out))) : w.heap.size ≤ gb425))
         have n6_ := am ((by rw [hg]; exact (below_size (by repeat (first | exact HB.out | refine below_set ?_ GE417.out | refine below_set ?_ GE418.out | refine below_set ?_ GE426.out))) : w.heap.size ≤ gb425))
         have n7_ := am ((by rw [hg]; exact Nat.ne_of_lt (blk_lt BK417.out) : gb417 ≠ gb425))
         have n8_ := am ((by rw [hg]; exact Nat.ne_of_gt (blk_lt BK417.out) : gb425 ≠ gb417))
         have n9_ := am ((by rw [hg]; exact Nat.ne_of_lt (blk_lt BK418.out) : gb418 ≠ gb425))
         have n10_ := am ((by rw [hg]; exact Nat.ne_of_gt (blk_lt BK418.out) : gb425 ≠ gb418))
         have n11_ := am ((by rw [hg]; exact Nat.ne_of_lt (blk_lt BK426.out) : gb426 ≠ gb425))
         have n12_ := am ((by rw [hg]; exact Nat.ne_of_gt (blk_lt BK426.out) : gb425 ≠ gb426))
         clear BK417
         clear BK418
         clear BK426
         clear HB
         have BK417 := n0_
         have BK418 := n1_
         have BK426 := n2_
         have HB := n3_
         have BK425 := n4_
         have GW425 := n5_
         have GE425 := n6_
         have NB417_425 := n7_
         have NB425_417 := n8_
         have NB418_425 := n9_
         have NB425_418 := n10_
         have NB426_425 := n11_
         have NB425_426 := n12_
         clear n0_ n1_ n2_ n3_ n4_ n5_ n6_ n7_ n8_ n9_ n10_ n11_ n12_
         clear hb hbox hg
         refine hK.out _ _ ⟨(blk_cell BK417.out 0).trans rfl, (blk_cell BK417.out 1).trans rfl, (blk_cell BK418.out 0).trans rfl, (blk_cell BK418.out 1).trans rfl⟩ (fun hHeld => ?_)
         clear hK K
         refine norm_ (a' := ?_) ?_ ?_
         rotate_left
         ·show Act.put _ (some 17) _ = _
          simp only [Act.put, q1, q2, q3, i64_w, i32_w]
          rfl
         exact norm_ (by first | (simp only [putAll, Act.put, q1, q2, q3]; done) | (simp only [putAll, Act.put, q1, q2, q3]; rfl)) (hJ2_6_9_14_15 (gb425, gb426) _ ⟨hHeld, BK417.out, BK418.out, BK425.out, BK426.out, GW425.out, GE425.out, NB417_425.out, NB425_417.out, NB418_425.out, NB425_418.out, NB426_425.out, NB425_426.out, GW426.out, GE426.out, NB417_426.out, NB426_417.out, NB418_426.out, NB426_418.out, (by repeat (first | exact HB.out | refine below_set ?_ GE417.out | refine below_set ?_ GE418.out | refine below_set ?_ GE426.out | refine below_set ?_ GE425.out))⟩)
      ·skip
       rintro gb425 w28 ⟨hS_, h0_, h1_, h2_, h3_, h4_, h5_, h6_, h7_, h8_, h9_⟩
       have n0_ : Aside0 (w28.heap[gb417]? = some (.cells #[.int .u64 t413, .int .u64 t414] 24 (0, 0))) := ⟨h0_⟩
       have n1_ : Aside0 (w28.heap[gb418]? = some (.cells #[.int .u64 t415, .int .u64 t416] 24 (0, 0))) := ⟨h1_⟩
       have n2_ : Aside0 (w28.heap[gb425]? = some (.cells #[.int .u64 0, .int .u64 0] 24 (0, 0))) := ⟨h2_⟩
       have n3_ : Aside0 (w.heap.size ≤ gb425) := ⟨h3_⟩
       have n4_ : Aside0 (w.heap.size ≤ gb425) := ⟨h4_⟩
       have n5_ : Aside0 (gb417 ≠ gb425) := ⟨h5_⟩
       have n6_ : Aside0 (gb425 ≠ gb417) := ⟨h6_⟩
       have n7_ : Aside0 (gb418 ≠ gb425) := ⟨h7_⟩
       have n8_ : Aside0 (gb425 ≠ gb418) := ⟨h8_⟩
       have n9_ : Aside0 (Below w.heap.size w w28) := ⟨h9_⟩
       clear BK417
       clear BK418
       clear HB
       clear h0_ h1_ h2_ h3_ h4_ h5_ h6_ h7_ h8_ h9_
       have BK417 := n0_
       have BK418 := n1_
       have BK425 := n2_
       have GW425 := n3_
       have GE425 := n4_
       have NB417_425 := n5_
       have NB425_417 := n6_
       have NB418_425 := n7_
       have NB425_418 := n8_
       have HB := n9_
       clear n0_ n1_ n2_ n3_ n4_ n5_ n6_ n7_ n8_ n9_
       have hHeld : w28.cell? ⟨gb417, 0, none⟩ = some (.int .u64 t413) ∧ w28.cell? ⟨gb417, 1, none⟩ = some (.int .u64 t414) ∧ w28.cell? ⟨gb418, 0, none⟩ = some (.int .u64 t415) ∧ w28.cell? ⟨gb418, 1, none⟩ = some (.int .u64 t416) := hS_
       refine norm_ (a' := ?_) ?_ ?_
       rotate_left
       ·simp only [putAll, Act.put, q1, q2, q3]
        rfl
       refine two_ (i := 13) (j := 15) (Ni := some 41) (Nj := some 18) (ar 18 32767) (ar 18 57343) rfl rfl rfl rfl (two_of HT_.out (by kernel_rfl)) (by decide) (by decide) (fun K hK => ?_) (fun K hK => ?_)
       ·skip
        refine goes_ Try.func9 (by kernel_rfl) rfl #[.int .u64 t422, .int .u64 (Go.bits .and .u64 a3 a5)] (by rfl) rfl rfl (by (try simp only [List.map_toArray, List.map_cons, List.map_nil]); first | done | rfl) ?_
        with_reducible refine (wardenlaw03_of.calls t422 (Go.bits .and .u64 a3 a5) t423 t424 _ A13.out).mono ?_
        rintro e w29 ⟨rfl, hb⟩
        refine ⟨_, rfl, ?_⟩
        have n0_ := am (blk_below BK417.out hb)
        have n1_ := am (blk_below BK418.out hb)
        have n2_ := am (blk_below BK425.out hb)
        have n3_ := am (below_step (by repeat (first | exact HB.out | refine below_set ?_ GE417.out | refine below_set ?_ GE418.out | refine below_set ?_ GE425.out)) hb)
        clear BK417
        clear BK418
        clear BK425
        clear HB
        have BK417 := n0_
        have BK418 := n1_
        have BK425 := n2_
        have HB := n3_
        clear n0_ n1_ n2_ n3_
        (try clear hb)
        (try clear hb2)
        (try clear hk)
        (try clear hi)
        refine hK.out _ _ ⟨(blk_cell BK417.out 0).trans rfl, (blk_cell BK417.out 1).trans rfl, (blk_cell BK418.out 0).trans rfl, (blk_cell BK418.out 1).trans rfl⟩ (fun hHeld => ?_)
        clear hK K
        refine norm_ (a' := ?_) ?_ ?_
        rotate_left
        ·show Act.put _ (some 41) _ = _
         simp only [Act.put, q1, q2, q3, i64_w, i32_w]
         rfl
        exact norm_ (by first | (simp only [putAll, Act.put, q1, q2, q3]; done) | (simp only [putAll, Act.put, q1, q2, q3]; rfl)) (hJ2_6_9_13_14 (gb425) _ ⟨hHeld, BK417.out, BK418.out, BK425.out, GW425.out, GE425.out, NB417_425.out, NB425_417.out, NB418_425.out, NB425_418.out, (by repeat (first | exact HB.out | refine below_set ?_ GE417.out | refine below_set ?_ GE418.out | refine below_set ?_ GE425.out))⟩)
       ·skip
        refine box_step ?hg (N := 18) ?hd (cs := #[.int .u64 0, .int .u64 0]) (t := 24) ?hr ?_; (case hd => rfl); (case hg => rfl); (case hr => first | (go_simp; done) | (go_simp; rfl))
        intro gb426 hg w29 hbox hb
        have n0_ := am (blk_below BK417.out hb)
        have n1_ := am (blk_below BK418.out hb)
        have n2_ := am (blk_below BK425.out hb)
        have n3_ := am (below_step (by repeat (first | exact HB.out | refine below_set ?_ GE417.out | refine below_set ?_ GE418.out | refine below_set ?_ GE425.out)) hb)
        have n4_ := am (hbox)
        have n5_ := am ((by rw [hg]; exact (below_size (by repeat (first | exact HB.out | refine below_set ?_ GE417.out | refine below_set ?_ GE418.out | refine below_set ?_ GE425.out))) : w.heap.size ≤ gb426))
        have n6_ := am ((by rw [hg]; exact (below_size (by repeat (first | exact HB.out | refine below_set ?_ GE417.out | refine below_set ?_ GE418.out | refine below_set ?_ GE425.out))) : w.heap.size ≤ gb426))
        have n7_ := am ((by rw [hg]; exact Nat.ne_of_lt (blk_lt BK417.out) : gb417 ≠ gb426))
        have n8_ := am ((by rw [hg]; exact Nat.ne_of_gt (blk_lt BK417.out) : gb426 ≠ gb417))
        have n9_ := am ((by rw [hg]; exact Nat.ne_of_lt (blk_lt BK418.out) : gb418 ≠ gb426))
        have n10_ := am ((by rw [hg]; exact Nat.ne_of_gt (blk_lt BK418.out) : gb426 ≠ gb418))
        have n11_ := am ((by rw [hg]; exact Nat.ne_of_lt (blk_lt BK425.out) : gb425 ≠ gb426))
        have n12_ := am ((by rw [hg]; exact Nat.ne_of_gt (blk_lt BK425.out) : gb426 ≠ gb425))
        clear BK417
        clear BK418
        clear BK425
        clear HB
        have BK417 := n0_
        have BK418 := n1_
        have BK425 := n2_
        have HB := n3_
        have BK426 := n4_
        have GW426 := n5_
        have GE426 := n6_
        have NB417_426 := n7_
        have NB426_417 := n8_
        have NB418_426 := n9_
        have NB426_418 := n10_
        have NB425_426 := n11_
        have NB426_425 := n12_
        clear n0_ n1_ n2_ n3_ n4_ n5_ n6_ n7_ n8_ n9_ n10_ n11_ n12_
        clear hb hbox hg
        refine hK.out _ _ ⟨(blk_cell BK417.out 0).trans rfl, (blk_cell BK417.out 1).trans rfl, (blk_cell BK418.out 0).trans rfl, (blk_cell BK418.out 1).trans rfl⟩ (fun hHeld => ?_)
        clear hK K
        refine norm_ (a' := ?_) ?_ ?_
        rotate_left
        ·show Act.put _ (some 18) _ = _
         simp only [Act.put, q1, q2, q3, i64_w, i32_w]
         rfl
        exact norm_ (by first | (simp only [putAll, Act.put, q1, q2, q3]; done) | (simp only [putAll, Act.put, q1, q2, q3]; rfl)) (hJ2_6_9_14_15 (gb425, gb426) _ ⟨hHeld, BK417.out, BK418.out, BK425.out, BK426.out, GW425.out, GE425.out, NB417_425.out, NB425_417.out, NB418_425.out, NB425_418.out, NB426_425.out, NB425_426.out, GW426.out, GE426.out, NB417_426.out, NB426_417.out, NB418_426.out, NB426_418.out, (by repeat (first | exact HB.out | refine below_set ?_ GE417.out | refine below_set ?_ GE418.out | refine below_set ?_ GE425.out | refine below_set ?_ GE426.out))⟩)
     ·skip
      rintro _ w28 ⟨hS_, h0_, h1_, h2_⟩
      have n0_ : Aside0 (w28.heap[gb417]? = some (.cells #[.int .u64 t413, .int .u64 t414] 24 (0, 0))) := ⟨h0_⟩
      have n1_ : Aside0 (w28.heap[gb418]? = some (.cells #[.int .u64 t415, .int .u64 t416] 24 (0, 0))) := ⟨h1_⟩
      have n2_ : Aside0 (Below w.heap.size w w28) := ⟨h2_⟩
      clear BK417
      clear BK418
      clear HB
      clear h0_ h1_ h2_
      have BK417 := n0_
      have BK418 := n1_
      have HB := n2_
      clear n0_ n1_ n2_
      have hHeld : w28.cell? ⟨gb417, 0, none⟩ = some (.int .u64 t413) ∧ w28.cell? ⟨gb417, 1, none⟩ = some (.int .u64 t414) ∧ w28.cell? ⟨gb418, 0, none⟩ = some (.int .u64 t415) ∧ w28.cell? ⟨gb418, 1, none⟩ = some (.int .u64 t416) := hS_
      refine norm_ (a' := ?_) ?_ ?_
      rotate_left
      ·simp only [putAll, Act.put, q1, q2, q3]
       rfl
      refine two_ (i := 14) (j := 15) (Ni := some 17) (Nj := some 18) (ar 18 32767) (ar 18 49151) rfl rfl rfl rfl (two_of HT_.out (by kernel_rfl)) (by decide) (by decide) (fun K hK => ?_) (fun K hK => ?_)
      ·skip
       refine box_step ?hg (N := 17) ?hd (cs := #[.int .u64 0, .int .u64 0]) (t := 24) ?hr ?_; (case hd => rfl); (case hg => rfl); (case hr => first | (go_simp; done) | (go_simp; rfl))
       intro gb425 hg w29 hbox hb
       have n0_ := am (blk_below BK417.out hb)
       have n1_ := am (blk_below BK418.out hb)
       have n2_ := am (below_step (by repeat (first | exact HB.out | refine below_set ?_ GE417.out | refine below_set ?_ GE418.out)) hb)
       have n3_ := am (hbox)
       have n4_ := am ((by rw [hg]; exact (below_size (by repeat (first | exact HB.out | refine below_set ?_ GE417.out | refine below_set ?_ GE418.out))) : w.heap.size ≤ gb425))
       have n5_ := am ((by rw [hg]; exact (below_size (by repeat (first | exact HB.out | refine below_set ?_ GE417.out | refine below_set ?_ GE418.out))) : w.heap.size ≤ gb425))
       have n6_ := am ((by rw [hg]; exact Nat.ne_of_lt (blk_lt BK417.out) : gb417 ≠ gb425))
       have n7_ := am ((by rw [hg]; exact Nat.ne_of_gt (blk_lt BK417.out) : gb425 ≠ gb417))
       have n8_ := am ((by rw [hg]; exact Nat.ne_of_lt (blk_lt BK418.out) : gb418 ≠ gb425))
       have n9_ := am ((by rw [hg]; exact Nat.ne_of_gt (blk_lt BK418.out) : gb425 ≠ gb418))
       clear BK417
       clear BK418
       clear HB
       have BK417 := n0_
       have BK418 := n1_
       have HB := n2_
       have BK425 := n3_
       have GW425 := n4_
       have GE425 := n5_
       have NB417_425 := n6_
       have NB425_417 := n7_
       have NB418_425 := n8_
       have NB425_418 := n9_
       clear n0_ n1_ n2_ n3_ n4_ n5_ n6_ n7_ n8_ n9_
       clear hb hbox hg
       refine hK.out _ _ ⟨(blk_cell BK417.out 0).trans rfl, (blk_cell BK417.out 1).trans rfl, (blk_cell BK418.out 0).trans rfl, (blk_cell BK418.out 1).trans rfl⟩ (fun hHeld => ?_)
       clear hK K
       refine norm_ (a' := ?_) ?_ ?_
       rotate_left
       ·show Act.put _ (some 17) _ = _
        simp only [Act.put, q1, q2, q3, i64_w, i32_w]
        rfl
       exact norm_ (by first | (simp only [putAll, Act.put, q1, q2, q3]; done) | (simp only [putAll, Act.put, q1, q2, q3]; rfl)) (hJ2_6_9_13_14 (gb425) _ ⟨hHeld, BK417.out, BK418.out, BK425.out, GW425.out, GE425.out, NB417_425.out, NB425_417.out, NB418_425.out, NB425_418.out, (by repeat (first | exact HB.out | refine below_set ?_ GE417.out | refine below_set ?_ GE418.out | refine below_set ?_ GE425.out))⟩)
      ·skip
       refine box_step ?hg (N := 18) ?hd (cs := #[.int .u64 0, .int .u64 0]) (t := 24) ?hr ?_; (case hd => rfl); (case hg => rfl); (case hr => first | (go_simp; done) | (go_simp; rfl))
       intro gb426 hg w29 hbox hb
       have n0_ := am (blk_below BK417.out hb)
       have n1_ := am (blk_below BK418.out hb)
       have n2_ := am (below_step (by repeat (first | exact HB.out | refine below_set ?_ GE417.out | refine below_set ?_ GE418.out)) hb)
       have n3_ := am (hbox)
       have n4_ := am ((by rw [hg]; exact (below_size (by repeat (first | exact HB.out | refine below_set ?_ GE417.out | refine below_set ?_ GE418.out))) : w.heap.size ≤ gb426))
       have n5_ := am ((by rw [hg]; exact (below_size (by repeat (first | exact HB.out | refine below_set ?_ GE417.out | refine below_set ?_ GE418.out))) : w.heap.size ≤ gb426))
       have n6_ := am ((by rw [hg]; exact Nat.ne_of_lt (blk_lt BK417.out) : gb417 ≠ gb426))
       have n7_ := am ((by rw [hg]; exact Nat.ne_of_gt (blk_lt BK417.out) : gb426 ≠ gb417))
       have n8_ := am ((by rw [hg]; exact Nat.ne_of_lt (blk_lt BK418.out) : gb418 ≠ gb426))
       have n9_ := am ((by rw [hg]; exact Nat.ne_of_gt (blk_lt BK418.out) : gb426 ≠ gb418))
       clear BK417
       clear BK418
       clear HB
       have BK417 := n0_
       have BK418 := n1_
       have HB := n2_
       have BK426 := n3_
       have GW426 := n4_
       have GE426 := n5_
       have NB417_426 := n6_
       have NB426_417 := n7_
       have NB418_426 := n8_
       have NB426_418 := n9_
       clear n0_ n1_ n2_ n3_ n4_ n5_ n6_ n7_ n8_ n9_
       clear hb hbox hg
       refine hK.out _ _ ⟨(blk_cell BK417.out 0).trans rfl, (blk_cell BK417.out 1).trans rfl, (blk_cell BK418.out 0).trans rfl, (blk_cell BK418.out 1).trans rfl⟩ (fun hHeld => ?_)
       clear hK K
       refine norm_ (a' := ?_) ?_ ?_
       rotate_left
       ·show Act.put _ (some 18) _ = _
        simp only [Act.put, q1, q2, q3, i64_w, i32_w]
        rfl
       exact norm_ (by first | (simp only [putAll, Act.put, q1, q2, q3]; done) | (simp only [putAll, Act.put, q1, q2, q3]; rfl)) (hJ2_6_9_13_15 (gb426) _ ⟨hHeld, BK417.out, BK418.out, BK426.out, GW426.out, GE426.out, NB417_426.out, NB426_417.out, NB418_426.out, NB426_418.out, (by repeat (first | exact HB.out | refine below_set ?_ GE417.out | refine below_set ?_ GE418.out | refine below_set ?_ GE426.out))⟩)
    ·skip
     rintro ⟨gb425, gb426⟩ w29 ⟨hS_, h0_, h1_, h2_, h3_, h4_, h5_, h6_, h7_, h8_, h9_, h10_, h11_, h12_, h13_, h14_, h15_, h16_, h17_, h18_⟩
     have n0_ : Aside0 (w29.heap[gb417]? = some (.cells #[.int .u64 t413, .int .u64 t414] 24 (0, 0))) := ⟨h0_⟩
     have n1_ : Aside0 (w29.heap[gb418]? = some (.cells #[.int .u64 t415, .int .u64 t416] 24 (0, 0))) := ⟨h1_⟩
     have n2_ : Aside0 (w29.heap[gb425]? = some (.cells #[.int .u64 0, .int .u64 0] 24 (0, 0))) := ⟨h2_⟩
     have n3_ : Aside0 (w29.heap[gb426]? = some (.cells #[.int .u64 0, .int .u64 0] 24 (0, 0))) := ⟨h3_⟩
     have n4_ : Aside0 (w.heap.size ≤ gb425) := ⟨h4_⟩
     have n5_ : Aside0 (w.heap.size ≤ gb425) := ⟨h5_⟩
     have n6_ : Aside0 (gb417 ≠ gb425) := ⟨h6_⟩
     have n7_ : Aside0 (gb425 ≠ gb417) := ⟨h7_⟩
     have n8_ : Aside0 (gb418 ≠ gb425) := ⟨h8_⟩
     have n9_ : Aside0 (gb425 ≠ gb418) := ⟨h9_⟩
     have n10_ : Aside0 (gb426 ≠ gb425) := ⟨h10_⟩
     have n11_ : Aside0 (gb425 ≠ gb426) := ⟨h11_⟩
     have n12_ : Aside0 (w.heap.size ≤ gb426) := ⟨h12_⟩
     have n13_ : Aside0 (w.heap.size ≤ gb426) := ⟨h13_⟩
     have n14_ : Aside0 (gb417 ≠ gb426) := ⟨h14_⟩
     have n15_ : Aside0 (gb426 ≠ gb417) := ⟨h15_⟩
     have n16_ : Aside0 (gb418 ≠ gb426) := ⟨h16_⟩
     have n17_ : Aside0 (gb426 ≠ gb418) := ⟨h17_⟩
     have n18_ : Aside0 (Below w.heap.size w w29) := ⟨h18_⟩
     clear BK417
     clear BK418
     clear HB
     clear h0_ h1_ h2_ h3_ h4_ h5_ h6_ h7_ h8_ h9_ h10_ h11_ h12_ h13_ h14_ h15_ h16_ h17_ h18_
     have BK417 := n0_
     have BK418 := n1_
     have BK425 := n2_
     have BK426 := n3_
     have GW425 := n4_
     have GE425 := n5_
     have NB417_425 := n6_
     have NB425_417 := n7_
     have NB418_425 := n8_
     have NB425_418 := n9_
     have NB426_425 := n10_
     have NB425_426 := n11_
     have GW426 := n12_
     have GE426 := n13_
     have NB417_426 := n14_
     have NB426_417 := n15_
     have NB418_426 := n16_
     have NB426_418 := n17_
     have HB := n18_
     clear n0_ n1_ n2_ n3_ n4_ n5_ n6_ n7_ n8_ n9_ n10_ n11_ n12_ n13_ n14_ n15_ n16_ n17_ n18_
     have hHeld : w29.cell? ⟨gb417, 0, none⟩ = some (.int .u64 t413) ∧ w29.cell? ⟨gb417, 1, none⟩ = some (.int .u64 t414) ∧ w29.cell? ⟨gb418, 0, none⟩ = some (.int .u64 t415) ∧ w29.cell? ⟨gb418, 1, none⟩ = some (.int .u64 t416) := hS_
     refine norm_ (a' := ?_) ?_ ?_
     rotate_left
     ·simp only [putAll, Act.put, q1, q2, q3]
      rfl
     refine one_ (i := 13) (N := some 41) (ar 18 65535) rfl rfl (one_of HT_.out (by kernel_rfl)) (by decide) (fun K hK => ?_)
     refine goes_ Try.func9 (by kernel_rfl) rfl #[.int .u64 t422, .int .u64 (Go.bits .and .u64 a3 a5)] (by rfl) rfl rfl (by (try simp only [List.map_toArray, List.map_cons, List.map_nil]); first | done | rfl) ?_
     with_reducible refine (wardenlaw03_of.calls t422 (Go.bits .and .u64 a3 a5) t423 t424 _ A13.out).mono ?_
     rintro e w30 ⟨rfl, hb⟩
     refine ⟨_, rfl, ?_⟩
     have n0_ := am (blk_below BK417.out hb)
     have n1_ := am (blk_below BK418.out hb)
     have n2_ := am (blk_below BK425.out hb)
     have n3_ := am (blk_below BK426.out hb)
     have n4_ := am (below_step (by repeat (first | exact HB.out | refine below_set ?_ GE417.out | refine below_set ?_ GE418.out | refine below_set ?_ GE425.out | refine below_set ?_ GE426.out)) hb)
     clear BK417
     clear BK418
     clear BK425
     clear BK426
     clear HB
     have BK417 := n0_
     have BK418 := n1_
     have BK425 := n2_
     have BK426 := n3_
     have HB := n4_
     clear n0_ n1_ n2_ n3_ n4_
     (try clear hb)
     (try clear hb2)
     (try clear hk)
     (try clear hi)
     refine hK.out _ _ ⟨(blk_cell BK417.out 0).trans rfl, (blk_cell BK417.out 1).trans rfl, (blk_cell BK418.out 0).trans rfl, (blk_cell BK418.out 1).trans rfl⟩ (fun hHeld => ?_)
     clear hK K
     refine norm_ (a' := ?_) ?_ ?_
     rotate_left
     ·show Act.put _ (some 41) _ = _
      simp only [Act.put, q1, q2, q3, i64_w, i32_w]
      rfl
     exact norm_ (by first | (simp only [putAll, Act.put, q1, q2, q3]; done) | (simp only [putAll, Act.put, q1, q2, q3]; rfl)) (hJ2_6_9_13_14_15 (gb425, gb426) _ ⟨hHeld, BK417.out, BK418.out, BK425.out, BK426.out, GW425.out, GE425.out, NB417_425.out, NB425_417.out, NB418_425.out, NB425_418.out, NB426_425.out, NB425_426.out, GW426.out, GE426.out, NB417_426.out, NB426_417.out, NB418_426.out, NB426_418.out, (by repeat (first | exact HB.out | refine below_set ?_ GE417.out | refine below_set ?_ GE418.out | refine below_set ?_ GE425.out | refine below_set ?_ GE426.out))⟩)
   ·skip
    rintro gb426 w29 ⟨hS_, h0_, h1_, h2_, h3_, h4_, h5_, h6_, h7_, h8_, h9_⟩
    have n0_ : Aside0 (w29.heap[gb417]? = some (.cells #[.int .u64 t413, .int .u64 t414] 24 (0, 0))) := ⟨h0_⟩
    have n1_ : Aside0 (w29.heap[gb418]? = some (.cells #[.int .u64 t415, .int .u64 t416] 24 (0, 0))) := ⟨h1_⟩
    have n2_ : Aside0 (w29.heap[gb426]? = some (.cells #[.int .u64 0, .int .u64 0] 24 (0, 0))) := ⟨h2_⟩
    have n3_ : Aside0 (w.heap.size ≤ gb426) := ⟨h3_⟩
    have n4_ : Aside0 (w.heap.size ≤ gb426) := ⟨h4_⟩
    have n5_ : Aside0 (gb417 ≠ gb426) := ⟨h5_⟩
    have n6_ : Aside0 (gb426 ≠ gb417) := ⟨h6_⟩
    have n7_ : Aside0 (gb418 ≠ gb426) := ⟨h7_⟩
    have n8_ : Aside0 (gb426 ≠ gb418) := ⟨h8_⟩
    have n9_ : Aside0 (Below w.heap.size w w29) := ⟨h9_⟩
    clear BK417
    clear BK418
    clear HB
    clear h0_ h1_ h2_ h3_ h4_ h5_ h6_ h7_ h8_ h9_
    have BK417 := n0_
    have BK418 := n1_
    have BK426 := n2_
    have GW426 := n3_
    have GE426 := n4_
    have NB417_426 := n5_
    have NB426_417 := n6_
    have NB418_426 := n7_
    have NB426_418 := n8_
    have HB := n9_
    clear n0_ n1_ n2_ n3_ n4_ n5_ n6_ n7_ n8_ n9_
    have hHeld : w29.cell? ⟨gb417, 0, none⟩ = some (.int .u64 t413) ∧ w29.cell? ⟨gb417, 1, none⟩ = some (.int .u64 t414) ∧ w29.cell? ⟨gb418, 0, none⟩ = some (.int .u64 t415) ∧ w29.cell? ⟨gb418, 1, none⟩ = some (.int .u64 t416) := hS_
    refine norm_ (a' := ?_) ?_ ?_
    rotate_left
    ·simp only [putAll, Act.put, q1, q2, q3]
     rfl
    refine one_ (i := 14) (N := some 17) (ar 18 65535) rfl rfl (one_of HT_.out (by kernel_rfl)) (by decide) (fun K hK => ?_)
    refine box_step ?hg (N := 17) ?hd (cs := #[.int .u64 0, .int .u64 0]) (t := 24) ?hr ?_; (case hd => rfl); (case hg => rfl); (case hr => first | (go_simp; done) | (go_simp; rfl))
    intro gb425 hg w30 hbox hb
    have n0_ := am (blk_below BK417.out hb)
    have n1_ := am (blk_below BK418.out hb)
    have n2_ := am (blk_below BK426.out hb)
    have n3_ := am (below_step (by repeat (first | exact HB.out | refine below_set ?_ GE417.out | refine below_set ?_ GE418.out | refine below_set ?_ GE426.out)) hb)
    have n4_ := am (hbox)
    have n5_ := am ((by rw [hg]; exact (below_size (by repeat (first | exact HB.out | refine below_set ?_ GE417.out | refine below_set ?_ GE418.out | refine below_set ?_ GE426.out))) : w.heap.size ≤ gb425))
    have n6_ := am ((by rw [hg]; exact (below_size (by repeat (first | exact HB.out | refine below_set ?_ GE417.out | refine below_set ?_ GE418.out | refine below_set ?_ GE426.out))) : w.heap.size ≤ gb425))
    have n7_ := am ((by rw [hg]; exact Nat.ne_of_lt (blk_lt BK417.out) : gb417 ≠ gb425))
    have n8_ := am ((by rw [hg]; exact Nat.ne_of_gt (blk_lt BK417.out) : gb425 ≠ gb417))
    have n9_ := am ((by rw [hg]; exact Nat.ne_of_lt (blk_lt BK418.out) : gb418 ≠ gb425))
    have n10_ := am ((by rw [hg]; exact Nat.ne_of_gt (blk_lt BK418.out) : gb425 ≠ gb418))
    have n11_ := am ((by rw [hg]; exact Nat.ne_of_lt (blk_lt BK426.out) : gb426 ≠ gb425))
    have n12_ := am ((by rw [hg]; exact Nat.ne_of_gt (blk_lt BK426.out) : gb425 ≠ gb426))
    clear BK417
    clear BK418
    clear BK426
    clear HB
    have BK417 := n0_
    have BK418 := n1_
    have BK426 := n2_
    have HB := n3_
    have BK425 := n4_
    have GW425 := n5_
    have GE425 := n6_
    have NB417_425 := n7_
    have NB425_417 := n8_
    have NB418_425 := n9_
    have NB425_418 := n10_
    have NB426_425 := n11_
    have NB425_426 := n12_
    clear n0_ n1_ n2_ n3_ n4_ n5_ n6_ n7_ n8_ n9_ n10_ n11_ n12_
    clear hb hbox hg
    refine hK.out _ _ ⟨(blk_cell BK417.out 0).trans rfl, (blk_cell BK417.out 1).trans rfl, (blk_cell BK418.out 0).trans rfl, (blk_cell BK418.out 1).trans rfl⟩ (fun hHeld => ?_)
    clear hK K
    refine norm_ (a' := ?_) ?_ ?_
    rotate_left
    ·show Act.put _ (some 17) _ = _
     simp only [Act.put, q1, q2, q3, i64_w, i32_w]
     rfl
    exact norm_ (by first | (simp only [putAll, Act.put, q1, q2, q3]; done) | (simp only [putAll, Act.put, q1, q2, q3]; rfl)) (hJ2_6_9_13_14_15 (gb425, gb426) _ ⟨hHeld, BK417.out, BK418.out, BK425.out, BK426.out, GW425.out, GE425.out, NB417_425.out, NB425_417.out, NB418_425.out, NB425_418.out, NB426_425.out, NB425_426.out, GW426.out, GE426.out, NB417_426.out, NB426_417.out, NB418_426.out, NB426_418.out, (by repeat (first | exact HB.out | refine below_set ?_ GE417.out | refine below_set ?_ GE418.out | refine below_set ?_ GE426.out | refine below_set ?_ GE425.out))⟩)
  ·skip
   rintro gb425 w29 ⟨hS_, h0_, h1_, h2_, h3_, h4_, h5_, h6_, h7_, h8_, h9_⟩
   have n0_ : Aside0 (w29.heap[gb417]? = some (.cells #[.int .u64 t413, .int .u64 t414] 24 (0, 0))) := ⟨h0_⟩
   have n1_ : Aside0 (w29.heap[gb418]? = some (.cells #[.int .u64 t415, .int .u64 t416] 24 (0, 0))) := ⟨h1_⟩
   have n2_ : Aside0 (w29.heap[gb425]? = some (.cells #[.int .u64 0, .int .u64 0] 24 (0, 0))) := ⟨h2_⟩
   have n3_ : Aside0 (w.heap.size ≤ gb425) := ⟨h3_⟩
   have n4_ : Aside0 (w.heap.size ≤ gb425) := ⟨h4_⟩
   have n5_ : Aside0 (gb417 ≠ gb425) := ⟨h5_⟩
   have n6_ : Aside0 (gb425 ≠ gb417) := ⟨h6_⟩
   have n7_ : Aside0 (gb418 ≠ gb425) := ⟨h7_⟩
   have n8_ : Aside0 (gb425 ≠ gb418) := ⟨h8_⟩
   have n9_ : Aside0 (Below w.heap.size w w29) := ⟨h9_⟩
   clear BK417
   clear BK418
   clear HB
   clear h0_ h1_ h2_ h3_ h4_ h5_ h6_ h7_ h8_ h9_
   have BK417 := n0_
   have BK418 := n1_
   have BK425 := n2_
   have GW425 := n3_
   have GE425 := n4_
   have NB417_425 := n5_
   have NB425_417 := n6_
   have NB418_425 := n7_
   have NB425_418 := n8_
   have HB := n9_
   clear n0_ n1_ n2_ n3_ n4_ n5_ n6_ n7_ n8_ n9_
   have hHeld : w29.cell? ⟨gb417, 0, none⟩ = some (.int .u64 t413) ∧ w29.cell? ⟨gb417, 1, none⟩ = some (.int .u64 t414) ∧ w29.cell? ⟨gb418, 0, none⟩ = some (.int .u64 t415) ∧ w29.cell? ⟨gb418, 1, none⟩ = some (.int .u64 t416) := hS_
   refine norm_ (a' := ?_) ?_ ?_
   rotate_left
   ·simp only [putAll, Act.put, q1, q2, q3]
    rfl
   refine one_ (i := 15) (N := some 18) (ar 18 65535) rfl rfl (one_of HT_.out (by kernel_rfl)) (by decide) (fun K hK => ?_)
   refine box_step ?hg (N := 18) ?hd (cs := #[.int .u64 0, .int .u64 0]) (t := 24) ?hr ?_; (case hd => rfl); (case hg => rfl); (case hr => first | (go_simp; done) | (go_simp; rfl))
   intro gb426 hg w30 hbox hb
   have n0_ := am (blk_below BK417.out hb)
   have n1_ := am (blk_below BK418.out hb)
   have n2_ := am (blk_below BK425.out hb)
   have n3_ := am (below_step (by repeat (first | exact HB.out | refine below_set ?_ GE417.out | refine below_set ?_ GE418.out | refine below_set ?_ GE425.out)) hb)
   have n4_ := am (hbox)
   have n5_ := am ((by rw [hg]; exact (below_size (by repeat (first | exact HB.out | refine below_set ?_ GE417.out | refine below_set ?_ GE418.out | refine below_set ?_ GE425.out))) : w.heap.size ≤ gb426))
   have n6_ := am ((by rw [hg]; exact (below_size (by repeat (first | exact HB.out | refine below_set ?_ GE417.out | refine below_set ?_ GE418.out | refine below_set ?_ GE425.out))) : w.heap.size ≤ gb426))
   have n7_ := am ((by rw [hg]; exact Nat.ne_of_lt (blk_lt BK417.out) : gb417 ≠ gb426))
   have n8_ := am ((by rw [hg]; exact Nat.ne_of_gt (blk_lt BK417.out) : gb426 ≠ gb417))
   have n9_ := am ((by rw [hg]; exact Nat.ne_of_lt (blk_lt BK418.out) : gb418 ≠ gb426))
   have n10_ := am ((by rw [hg]; exact Nat.ne_of_gt (blk_lt BK418.out) : gb426 ≠ gb418))
   have n11_ := am ((by rw [hg]; exact Nat.ne_of_lt (blk_lt BK425.out) : gb425 ≠ gb426))
   have n12_ := am ((by rw [hg]; exact Nat.ne_of_gt (blk_lt BK425.out) : gb426 ≠ gb425))
   clear BK417
   clear BK418
   clear BK425
   clear HB
   have BK417 := n0_
   have BK418 := n1_
   have BK425 := n2_
   have HB := n3_
   have BK426 := n4_
   have GW426 := n5_
   have GE426 := n6_
   have NB417_426 := n7_
   have NB426_417 := n8_
   have NB418_426 := n9_
   have NB426_418 := n10_
   have NB425_426 := n11_
   have NB426_425 := n12_
   clear n0_ n1_ n2_ n3_ n4_ n5_ n6_ n7_ n8_ n9_ n10_ n11_ n12_
   clear hb hbox hg
   refine hK.out _ _ ⟨(blk_cell BK417.out 0).trans rfl, (blk_cell BK417.out 1).trans rfl, (blk_cell BK418.out 0).trans rfl, (blk_cell BK418.out 1).trans rfl⟩ (fun hHeld => ?_)
   clear hK K
   refine norm_ (a' := ?_) ?_ ?_
   rotate_left
   ·show Act.put _ (some 18) _ = _
    simp only [Act.put, q1, q2, q3, i64_w, i32_w]
    rfl
   exact norm_ (by first | (simp only [putAll, Act.put, q1, q2, q3]; done) | (simp only [putAll, Act.put, q1, q2, q3]; rfl)) (hJ2_6_9_13_14_15 (gb425, gb426) _ ⟨hHeld, BK417.out, BK418.out, BK425.out, BK426.out, GW425.out, GE425.out, NB417_425.out, NB425_417.out, NB418_425.out, NB425_418.out, NB426_425.out, NB425_426.out, GW426.out, GE426.out, NB417_426.out, NB426_417.out, NB418_426.out, NB426_418.out, (by repeat (first | exact HB.out | refine below_set ?_ GE417.out | refine below_set ?_ GE418.out | refine below_set ?_ GE425.out | refine below_set ?_ GE426.out))⟩)
 rintro ⟨gb425, gb426⟩ w30 ⟨hS_, h0_, h1_, h2_, h3_, h4_, h5_, h6_, h7_, h8_, h9_, h10_, h11_, h12_, h13_, h14_, h15_, h16_, h17_, h18_⟩
 have n0_ : Aside0 (w30.heap[gb417]? = some (.cells #[.int .u64 t413, .int .u64 t414] 24 (0, 0))) := ⟨h0_⟩
 have n1_ : Aside0 (w30.heap[gb418]? = some (.cells #[.int .u64 t415, .int .u64 t416] 24 (0, 0))) := ⟨h1_⟩
 have n2_ : Aside0 (w30.heap[gb425]? = some (.cells #[.int .u64 0, .int .u64 0] 24 (0, 0))) := ⟨h2_⟩
 have n3_ : Aside0 (w30.heap[gb426]? = some (.cells #[.int .u64 0, .int .u64 0] 24 (0, 0))) := ⟨h3_⟩
 have n4_ : Aside0 (w.heap.size ≤ gb425) := ⟨h4_⟩
 have n5_ : Aside0 (w.heap.size ≤ gb425) := ⟨h5_⟩
 have n6_ : Aside0 (gb417 ≠ gb425) := ⟨h6_⟩
 have n7_ : Aside0 (gb425 ≠ gb417) := ⟨h7_⟩
 have n8_ : Aside0 (gb418 ≠ gb425) := ⟨h8_⟩
 have n9_ : Aside0 (gb425 ≠ gb418) := ⟨h9_⟩
 have n10_ : Aside0 (gb426 ≠ gb425) := ⟨h10_⟩
 have n11_ : Aside0 (gb425 ≠ gb426) := ⟨h11_⟩
 have n12_ : Aside0 (w.heap.size ≤ gb426) := ⟨h12_⟩
 have n13_ : Aside0 (w.heap.size ≤ gb426) := ⟨h13_⟩
 have n14_ : Aside0 (gb417 ≠ gb426) := ⟨h14_⟩
 have n15_ : Aside0 (gb426 ≠ gb417) := ⟨h15_⟩
 have n16_ : Aside0 (gb418 ≠ gb426) := ⟨h16_⟩
 have n17_ : Aside0 (gb426 ≠ gb418) := ⟨h17_⟩
 have n18_ : Aside0 (Below w.heap.size w w30) := ⟨h18_⟩
 clear BK417
 clear BK418
 clear HB
 clear h0_ h1_ h2_ h3_ h4_ h5_ h6_ h7_ h8_ h9_ h10_ h11_ h12_ h13_ h14_ h15_ h16_ h17_ h18_
 have BK417 := n0_
 have BK418 := n1_
 have BK425 := n2_
 have BK426 := n3_
 have GW425 := n4_
 have GE425 := n5_
 have NB417_425 := n6_
 have NB425_417 := n7_
 have NB418_425 := n8_
 have NB425_418 := n9_
 have NB426_425 := n10_
 have NB425_426 := n11_
 have GW426 := n12_
 have GE426 := n13_
 have NB417_426 := n14_
 have NB426_417 := n15_
 have NB418_426 := n16_
 have NB426_418 := n17_
 have HB := n18_
 clear n0_ n1_ n2_ n3_ n4_ n5_ n6_ n7_ n8_ n9_ n10_ n11_ n12_ n13_ n14_ n15_ n16_ n17_ n18_
 have hHeld : w30.cell? ⟨gb417, 0, none⟩ = some (.int .u64 t413) ∧ w30.cell? ⟨gb417, 1, none⟩ = some (.int .u64 t414) ∧ w30.cell? ⟨gb418, 0, none⟩ = some (.int .u64 t415) ∧ w30.cell? ⟨gb418, 1, none⟩ = some (.int .u64 t416) := hS_
 refine norm_ (a' := ?_) ?_ ?_
 rotate_left
 ·simp only [putAll, Act.put, q1, q2, q3]
  rfl
 refine one_ (i := 16) (N := none) (ar 18 131071) rfl rfl (one_of HT_.out (by kernel_rfl)) (by decide) (fun K hK => ?_)
 have hs31 : w30.cell? ⟨gb425, 0, none⟩ = some (.int .u64 0) := (blk_cell BK425.out 0).trans rfl
 have hfs31 := blk_frozen BK425.out 0
 have hns31_0 := NB417_425.out
 have hns31_1 := NB418_425.out
 have hns31_3 := NB426_425.out
 have hms31_0 := NB425_417.out
 have hms31_1 := NB425_418.out
 have hms31_3 := NB425_426.out
 have hs32 : w30.cell? ⟨gb425, 1, none⟩ = some (.int .u64 0) := (blk_cell BK425.out 1).trans rfl
 have hfs32 := blk_frozen BK425.out 1
 have hns32_0 := NB417_425.out
 have hns32_1 := NB418_425.out
 have hns32_3 := NB426_425.out
 have hms32_0 := NB425_417.out
 have hms32_1 := NB425_418.out
 have hms32_3 := NB425_426.out
 refine skip_ (w1 := ?_) (by rfl) rfl ?_ ?_
 rotate_left
 ·go_simp
  rfl
 refine hK.out _ _ ⟨((cell_far (p := ⟨gb425, _, none⟩) NB417_425.out _).trans (((cell_far (p := ⟨gb425, _, none⟩) NB417_425.out _).trans (hHeld.1)))), ((cell_far (p := ⟨gb425, _, none⟩) NB417_425.out _).trans (((cell_far (p := ⟨gb425, _, none⟩) NB417_425.out _).trans (hHeld.2.1)))), ((cell_far (p := ⟨gb425, _, none⟩) NB418_425.out _).trans (((cell_far (p := ⟨gb425, _, none⟩) NB418_425.out _).trans (hHeld.2.2.1)))), ((cell_far (p := ⟨gb425, _, none⟩) NB418_425.out _).trans (((cell_far (p := ⟨gb425, _, none⟩) NB418_425.out _).trans (hHeld.2.2.2))))⟩ (fun hHeld => ?_)
 clear hK K
 refine one_ (i := 17) (N := none) (ar 18 262143) rfl rfl (one_of HT_.out (by kernel_rfl)) (by decide) (fun K hK => ?_)
 have hs33 : w30.cell? ⟨gb426, 0, none⟩ = some (.int .u64 0) := (blk_cell BK426.out 0).trans rfl
 have hfs33 := blk_frozen BK426.out 0
 have hns33_0 := NB417_426.out
 have hns33_1 := NB418_426.out
 have hns33_2 := NB425_426.out
 have hms33_0 := NB426_417.out
 have hms33_1 := NB426_418.out
 have hms33_2 := NB426_425.out
 have hs34 : w30.cell? ⟨gb426, 1, none⟩ = some (.int .u64 0) := (blk_cell BK426.out 1).trans rfl
 have hfs34 := blk_frozen BK426.out 1
 have hns34_0 := NB417_426.out
 have hns34_1 := NB418_426.out
 have hns34_2 := NB425_426.out
 have hms34_0 := NB426_417.out
 have hms34_1 := NB426_418.out
 have hms34_2 := NB426_425.out
 refine skip_ (w1 := ?_) (by rfl) rfl ?_ ?_
 rotate_left
 ·go_simp
  rfl
 refine hK.out _ _ ⟨((cell_far (p := ⟨gb426, _, none⟩) NB417_426.out _).trans (((cell_far (p := ⟨gb426, _, none⟩) NB417_426.out _).trans (hHeld.1)))), ((cell_far (p := ⟨gb426, _, none⟩) NB417_426.out _).trans (((cell_far (p := ⟨gb426, _, none⟩) NB417_426.out _).trans (hHeld.2.1)))), ((cell_far (p := ⟨gb426, _, none⟩) NB418_426.out _).trans (((cell_far (p := ⟨gb426, _, none⟩) NB418_426.out _).trans (hHeld.2.2.1)))), ((cell_far (p := ⟨gb426, _, none⟩) NB418_426.out _).trans (((cell_far (p := ⟨gb426, _, none⟩) NB418_426.out _).trans (hHeld.2.2.2))))⟩ (fun hHeld => ?_)
 clear hK K
 refine done_ (done_of HT_.out (by kernel_rfl)) ?_
 go_upto_region 3 with (fail)
 go_cut [51] (fun v51 wc => ∃ (kq : Nat) (x51_13 : Bool), v51 = .bool x51_13 ∧ Aside0 (wardenlaw03_TnumOrder.j0 kq a0 a2 a6 x51_13 t413 t414 t415 t416 t420 t421 t423 t424 = some r) ∧ Aside0 (kq ≤ k) ∧ Aside0 (wc.heap[gb417]? = some (.cells #[.int .u64 t413, .int .u64 t414] 24 (0, 0))) ∧ Aside0 (wc.heap[gb418]? = some (.cells #[.int .u64 t415, .int .u64 t416] 24 (0, 0))) ∧ Aside0 (wc.heap[gb425]? = some (.cells #[.int .u64 t420, .int .u64 t421] 24 (0, 0))) ∧ Aside0 (wc.heap[gb426]? = some (.cells #[.int .u64 t423, .int .u64 t424] 24 (0, 0))) ∧ Aside0 (Below w.heap.size w wc))
 case first =>
  have H := HC14.out
  clear HC14
  replace H := Option.bind_eq_some_iff.mp H
  obtain ⟨t427, A350, H⟩ := H
  try dsimp only at H
  have A35 := am A350
  clear A350
  by_cases c36 : t427 = true
  ·subst c36
   have H1 : ((tnum_In.f t423 t424 t415 t416).bind fun t428 => (wardenlaw03_TnumOrder.j0 k a0 a2 a6 (!t428) t413 t414 t415 t416 t420 t421 t423 t424)) = some r := by rw [if_pos rfl] at H; exact H
   clear H
   have H := H1
   clear H1
   replace H := Option.bind_eq_some_iff.mp H
   obtain ⟨t428, A370, H⟩ := H
   try dsimp only at H
   have A37 := am A370
   clear A370
   have H' := am H
   clear H
   have hnb38 := NB425_417.out
   have hnc38 := NB417_425.out
   have hnb39 := NB425_418.out
   have hnc39 := NB418_425.out
   have hnb40 := NB425_426.out
   have hnc40 := NB426_425.out
   have hcz41_0 : w30.cell? ⟨gb425, 0, none⟩ = some (.int .u64 0) := (blk_cell BK425.out 0).trans rfl
   have hcz41_1 : w30.cell? ⟨gb425, 1, none⟩ = some (.int .u64 0) := (blk_cell BK425.out 1).trans rfl
   have hfz41_0 := blk_frozen BK425.out 0
   have hfz41_1 := blk_frozen BK425.out 1
   have hnb42 := NB417_418.out
   have hnc42 := NB418_417.out
   have hnb43 := NB417_426.out
   have hnc43 := NB426_417.out
   have hcz44_0 : w30.cell? ⟨gb417, 0, none⟩ = some (.int .u64 t413) := (blk_cell BK417.out 0).trans rfl
   have hcz44_1 : w30.cell? ⟨gb417, 1, none⟩ = some (.int .u64 t414) := (blk_cell BK417.out 1).trans rfl
   have hfz44_0 := blk_frozen BK417.out 0
   have hfz44_1 := blk_frozen BK417.out 1
   go_wp2_with (first | ((with_reducible refine gate_callee (f := 15) rfl ?_); refine goesL_ (some 44) rfl rfl Try.func15 (by kernel_rfl) rfl #[.agg #[.int .u64 t420, .int .u64 t421], .agg #[.int .u64 t413, .int .u64 t414]] rfl (by (try simp only [List.map_toArray, List.map_cons, List.map_nil]); first | done | rfl) ?_; (with_reducible refine (tnum_In.calls t420 t421 t413 t414 true _ A35.out).mono ?_); rintro e w45 ⟨rfl, hb⟩; refine ⟨_, rfl, ?_⟩; have n0_ := am (blk_below (g := gb417) (o := .cells #[.int .u64 t413, .int .u64 t414] 24 (0, 0)) (by (with_reducible repeat (first | refine blk_drewN ?_ _ | refine blk_drew ?_ | refine blk_alloc ?_ _)); refine blk_far ?_ NB417_426.out _; (with_reducible repeat (first | refine blk_drewN ?_ _ | refine blk_drew ?_ | refine blk_alloc ?_ _)); refine blk_far ?_ NB417_426.out _; (with_reducible repeat (first | refine blk_drewN ?_ _ | refine blk_drew ?_ | refine blk_alloc ?_ _)); refine blk_far ?_ NB417_425.out _; (with_reducible repeat (first | refine blk_drewN ?_ _ | refine blk_drew ?_ | refine blk_alloc ?_ _)); refine blk_far ?_ NB417_425.out _; (with_reducible repeat (first | refine blk_drewN ?_ _ | refine blk_drew ?_ | refine blk_alloc ?_ _)); exact BK417.out) hb); have n1_ := am (blk_below (g := gb418) (o := .cells #[.int .u64 t415, .int .u64 t416] 24 (0, 0)) (by (with_reducible repeat (first | refine blk_drewN ?_ _ | refine blk_drew ?_ | refine blk_alloc ?_ _)); refine blk_far ?_ NB418_426.out _; (with_reducible repeat (first | refine blk_drewN ?_ _ | refine blk_drew ?_ | refine blk_alloc ?_ _)); refine blk_far ?_ NB418_426.out _; (with_reducible repeat (first | refine blk_drewN ?_ _ | refine blk_drew ?_ | refine blk_alloc ?_ _)); refine blk_far ?_ NB418_425.out _; (with_reducible repeat (first | refine blk_drewN ?_ _ | refine blk_drew ?_ | refine blk_alloc ?_ _)); refine blk_far ?_ NB418_425.out _; (with_reducible repeat (first | refine blk_drewN ?_ _ | refine blk_drew ?_ | refine blk_alloc ?_ _)); exact BK418.out) hb); have n2_ := am (blk_below (g := gb425) (o := .cells #[.int .u64 t420, .int .u64 t421] 24 (0, 0)) (by (with_reducible repeat (first | refine blk_drewN ?_ _ | refine blk_drew ?_ | refine blk_alloc ?_ _)); refine blk_far ?_ NB425_426.out _; (with_reducible repeat (first | refine blk_drewN ?_ _ | refine blk_drew ?_ | refine blk_alloc ?_ _)); refine blk_far ?_ NB425_426.out _; (with_reducible repeat (first | refine blk_drewN ?_ _ | refine blk_drew ?_ | refine blk_alloc ?_ _)); refine blk_put (cs := #[.int .u64 t420, .int .u64 0]) ?_ 1 _ rfl; (with_reducible repeat (first | refine blk_drewN ?_ _ | refine blk_drew ?_ | refine blk_alloc ?_ _)); refine blk_put (cs := #[.int .u64 0, .int .u64 0]) ?_ 0 _ rfl; (with_reducible repeat (first | refine blk_drewN ?_ _ | refine blk_drew ?_ | refine blk_alloc ?_ _)); exact BK425.out) hb); have n3_ := am (blk_below (g := gb426) (o := .cells #[.int .u64 t423, .int .u64 t424] 24 (0, 0)) (by (with_reducible repeat (first | refine blk_drewN ?_ _ | refine blk_drew ?_ | refine blk_alloc ?_ _)); refine blk_put (cs := #[.int .u64 t423, .int .u64 0]) ?_ 1 _ rfl; (with_reducible repeat (first | refine blk_drewN ?_ _ | refine blk_drew ?_ | refine blk_alloc ?_ _)); refine blk_put (cs := #[.int .u64 0, .int .u64 0]) ?_ 0 _ rfl; (with_reducible repeat (first | refine blk_drewN ?_ _ | refine blk_drew ?_ | refine blk_alloc ?_ _)); refine blk_far ?_ NB426_425.out _; (with_reducible repeat (first | refine blk_drewN ?_ _ | refine blk_drew ?_ | refine blk_alloc ?_ _)); refine blk_far ?_ NB426_425.out _; (with_reducible repeat (first | refine blk_drewN ?_ _ | refine blk_drew ?_ | refine blk_alloc ?_ _)); exact BK426.out) hb); have n4_ := am (below_step (by repeat (first | exact HB.out | refine below_set ?_ GE417.out | refine below_set ?_ GE418.out | refine below_set ?_ GE425.out | refine below_set ?_ GE426.out)) hb); clear BK417; clear BK418; clear BK425; clear BK426; clear HB; have BK417 := n0_; have BK418 := n1_; have BK425 := n2_; have BK426 := n3_; have HB := n4_; clear n0_ n1_ n2_ n3_ n4_; (try clear hb); (try clear hb2); (try clear hk); (try clear hi); have hnb46 := NB426_418.out; have hnc46 := NB418_426.out; have hcz47_0 : w45.cell? ⟨gb426, 0, none⟩ = some (.int .u64 t423) := (blk_cell BK426.out 0).trans rfl; have hcz47_1 : w45.cell? ⟨gb426, 1, none⟩ = some (.int .u64 t424) := (blk_cell BK426.out 1).trans rfl; have hfz47_0 := blk_frozen BK426.out 0; have hfz47_1 := blk_frozen BK426.out 1; have hcz48_0 : w45.cell? ⟨gb418, 0, none⟩ = some (.int .u64 t415) := (blk_cell BK418.out 0).trans rfl; have hcz48_1 : w45.cell? ⟨gb418, 1, none⟩ = some (.int .u64 t416) := (blk_cell BK418.out 1).trans rfl; have hfz48_0 := blk_frozen BK418.out 0; have hfz48_1 := blk_frozen BK418.out 1) | (go_at_call 15; (with_reducible refine (tnum_In.calls t423 t424 t415 t416 t428 _ A37.out).mono ?_); rintro e w49 ⟨rfl, hb⟩; have n0_ := am (blk_below BK417.out hb); have n1_ := am (blk_below BK418.out hb); have n2_ := am (blk_below BK425.out hb); have n3_ := am (blk_below BK426.out hb); have n4_ := am (below_step (by repeat (first | exact HB.out | refine below_set ?_ GE417.out | refine below_set ?_ GE418.out | refine below_set ?_ GE425.out | refine below_set ?_ GE426.out)) hb); clear BK417; clear BK418; clear BK425; clear BK426; clear HB; have BK417 := n0_; have BK418 := n1_; have BK425 := n2_; have BK426 := n3_; have HB := n4_; clear n0_ n1_ n2_ n3_ n4_; (try clear hb); (try clear hb2); (try clear hk); (try clear hi)))
   go_meet
   case rel => exact ⟨_, (!t428), (by first | rfl | (simp; done) | (simp [*]; done)), H', ⟨by first | omega | exact Nat.le_refl _⟩, ⟨by (with_reducible repeat (first | refine blk_drewN ?_ _ | refine blk_drew ?_ | refine blk_alloc ?_ _)); exact BK417.out⟩, ⟨by (with_reducible repeat (first | refine blk_drewN ?_ _ | refine blk_drew ?_ | refine blk_alloc ?_ _)); exact BK418.out⟩, ⟨by (with_reducible repeat (first | refine blk_drewN ?_ _ | refine blk_drew ?_ | refine blk_alloc ?_ _)); exact BK425.out⟩, ⟨by (with_reducible repeat (first | refine blk_drewN ?_ _ | refine blk_drew ?_ | refine blk_alloc ?_ _)); exact BK426.out⟩, ⟨by repeat (first | (with_reducible first | exact HB.out | apply below_alloc | apply pw_below_drewN | apply below_drew1 | refine below_set ?_ GE417.out | refine below_set ?_ GE418.out | refine below_set ?_ GE425.out | refine below_set ?_ GE426.out) | exact HB.out)⟩⟩
  ·replace c36 := Bool.eq_false_iff.mpr c36
   subst c36
   have H1 : (wardenlaw03_TnumOrder.j0 k a0 a2 a6 true t413 t414 t415 t416 t420 t421 t423 t424) = some r := by rw [if_neg (show ¬ (false = true) by decide)] at H; exact H
   clear H
   have H := H1
   clear H1
   exact absurd (H.trans (congrArg some hr_.out)) (wardenlaw03_TnumOrder.j0_no4 _ _ _ _ _ _ _ _ _ _ _ _)
 case rest =>
  clear HC14
  try clear c1
  try clear p2
  try clear c3
  try clear c4
  try clear c5
  try clear c9
  try clear c15
  try clear c36
  try clear c38
  try clear c39
  try clear c40
  try clear c42
  try clear c43
  try clear c46
  try clear c50
  try clear c51
  try clear c52
  try clear c54
  try clear c55
  try clear hcz41_0
  try clear hcz41_1
  try clear hcz44_0
  try clear hcz44_1
  try clear hcz47_0
  try clear hcz47_1
  try clear hcz48_0
  try clear hcz48_1
  try clear hcz53_0
  try clear hcz53_1
  try clear hcz56_0
  try clear hcz56_1
  try clear hfz41_0
  try clear hfz41_1
  try clear hfz44_0
  try clear hfz44_1
  try clear hfz47_0
  try clear hfz47_1
  try clear hfz48_0
  try clear hfz48_1
  try clear hfz53_0
  try clear hfz53_1
  try clear hfz56_0
  try clear hfz56_1
  obtain ⟨kq, x51_13, rfl, HA, HJ13, BK417, BK418, BK425, BK426, HB⟩ := hcut
  cases kq with
  | zero => exact absurd HA.out (by simp [wardenlaw03_TnumOrder.j0])
  | succ kj13 =>
   have H := HA.out
   clear HA
   simp only [wardenlaw03_TnumOrder.j0] at H
   by_cases c58 : x51_13 = true
   ·subst c58
    have H1 : (some false) = some r := by rw [if_pos rfl] at H; exact H
    clear H
    have H := H1
    clear H1
    obtain rfl := Option.some.inj H
    go_wp2
    go_ret
    exact ⟨by first | rfl | (simp [errW_none, errW_some] <;> rfl) | (simp [*, errW_none, errW_some] <;> rfl), by repeat (first | (with_reducible first | exact HB.out | apply below_alloc | apply pw_below_drewN | apply below_drew1 | refine below_set ?_ GE417.out | refine below_set ?_ GE418.out | refine below_set ?_ GE425.out | refine below_set ?_ GE426.out) | exact HB.out)⟩
   ·replace c58 := Bool.eq_false_iff.mpr c58
    subst c58
    have H1 : ((tnum_Add.f t420 t421 t423 t424).bind fun bt429 => ((tnum_Add.f t413 t414 t415 t416).bind fun bt431 => ((tnum_In.f bt429.1 bt429.2 bt431.1 bt431.2).bind fun t433 => (if t433 = true then ((tnum_Sub.f t420 t421 t423 t424).bind fun bt434 => ((tnum_Sub.f t413 t414 t415 t416).bind fun bt436 => ((tnum_In.f bt434.1 bt434.2 bt436.1 bt436.2).bind fun t438 => (if t438 = true then ((tnum_And.f t420 t421 t423 t424).bind fun bt439 => ((tnum_And.f t413 t414 t415 t416).bind fun bt441 => ((tnum_In.f bt439.1 bt439.2 bt441.1 bt441.2).bind fun t443 => (if t443 = true then ((tnum_Or.f t420 t421 t423 t424).bind fun bt444 => ((tnum_Or.f t413 t414 t415 t416).bind fun bt446 => ((tnum_In.f bt444.1 bt444.2 bt446.1 bt446.2).bind fun t448 => (if t448 = true then ((tnum_Xor.f t420 t421 t423 t424).bind fun bt449 => ((tnum_Xor.f t413 t414 t415 t416).bind fun bt451 => ((tnum_In.f bt449.1 bt449.2 bt451.1 bt451.2).bind fun t453 => (wardenlaw03_TnumOrder.j1 kj13 a0 a2 (IntKind.u64.wrap (a6)) (!t453) t413 t414 t420 t421 t423 t424)))) else (wardenlaw03_TnumOrder.j1 kj13 a0 a2 (IntKind.u64.wrap (a6)) true t413 t414 t420 t421 t423 t424))))) else (wardenlaw03_TnumOrder.j1 kj13 a0 a2 (IntKind.u64.wrap (a6)) true t413 t414 t420 t421 t423 t424))))) else (wardenlaw03_TnumOrder.j1 kj13 a0 a2 (IntKind.u64.wrap (a6)) true t413 t414 t420 t421 t423 t424))))) else (wardenlaw03_TnumOrder.j1 kj13 a0 a2 (IntKind.u64.wrap (a6)) true t413 t414 t420 t421 t423 t424))))) = some r := by rw [if_neg (show ¬ (false = true) by decide)] at H; exact H
    clear H
    have H := H1
    clear H1
    have HC59 := am H
    clear H
    go_upto_region 6 with (fail)
    go_cut [101] (fun v101 wc => ∃ (kq : Nat) (x101_58 : Bool), v101 = .bool x101_58 ∧ Aside0 (wardenlaw03_TnumOrder.j1 kq a0 a2 (IntKind.u64.wrap (a6)) x101_58 t413 t414 t420 t421 t423 t424 = some r) ∧ Aside0 (kq ≤ kj13) ∧ Aside0 (wc.heap[gb417]? = some (.cells #[.int .u64 t413, .int .u64 t414] 24 (0, 0))) ∧ Aside0 (wc.heap[gb418]? = some (.cells #[.int .u64 t415, .int .u64 t416] 24 (0, 0))) ∧ Aside0 (wc.heap[gb425]? = some (.cells #[.int .u64 t420, .int .u64 t421] 24 (0, 0))) ∧ Aside0 (wc.heap[gb426]? = some (.cells #[.int .u64 t423, .int .u64 t424] 24 (0, 0))) ∧ Aside0 (Below w.heap.size w wc))
    case first =>
     have H := HC59.out
     clear HC59
     replace H := Option.bind_eq_some_iff.mp H
     obtain ⟨⟨t429, t430⟩, A600, H⟩ := H
     try dsimp only at H
     have A60 := am A600
     clear A600
     replace H := Option.bind_eq_some_iff.mp H
     obtain ⟨⟨t431, t432⟩, A610, H⟩ := H
     try dsimp only at H
     have A61 := am A610
     clear A610
     replace H := Option.bind_eq_some_iff.mp H
     obtain ⟨t433, A620, H⟩ := H
     try dsimp only at H
     have A62 := am A620
     clear A620
     by_cases c63 : t433 = true
     ·subst c63
      have H1 : ((tnum_Sub.f t420 t421 t423 t424).bind fun bt434 => ((tnum_Sub.f t413 t414 t415 t416).bind fun bt436 => ((tnum_In.f bt434.1 bt434.2 bt436.1 bt436.2).bind fun t438 => (if t438 = true then ((tnum_And.f t420 t421 t423 t424).bind fun bt439 => ((tnum_And.f t413 t414 t415 t416).bind fun bt441 => ((tnum_In.f bt439.1 bt439.2 bt441.1 bt441.2).bind fun t443 => (if t443 = true then ((tnum_Or.f t420 t421 t423 t424).bind fun bt444 => ((tnum_Or.f t413 t414 t415 t416).bind fun bt446 => ((tnum_In.f bt444.1 bt444.2 bt446.1 bt446.2).bind fun t448 => (if t448 = true then ((tnum_Xor.f t420 t421 t423 t424).bind fun bt449 => ((tnum_Xor.f t413 t414 t415 t416).bind fun bt451 => ((tnum_In.f bt449.1 bt449.2 bt451.1 bt451.2).bind fun t453 => (wardenlaw03_TnumOrder.j1 kj13 a0 a2 (IntKind.u64.wrap (a6)) (!t453) t413 t414 t420 t421 t423 t424)))) else (wardenlaw03_TnumOrder.j1 kj13 a0 a2 (IntKind.u64.wrap (a6)) true t413 t414 t420 t421 t423 t424))))) else (wardenlaw03_TnumOrder.j1 kj13 a0 a2 (IntKind.u64.wrap (a6)) true t413 t414 t420 t421 t423 t424))))) else (wardenlaw03_TnumOrder.j1 kj13 a0 a2 (IntKind.u64.wrap (a6)) true t413 t414 t420 t421 t423 t424))))) = some r := by rw [if_pos rfl] at H; exact H
      clear H
      have H := H1
      clear H1
      replace H := Option.bind_eq_some_iff.mp H
      obtain ⟨⟨t434, t435⟩, A640, H⟩ := H
      try dsimp only at H
      have A64 := am A640
      clear A640
      replace H := Option.bind_eq_some_iff.mp H
      obtain ⟨⟨t436, t437⟩, A650, H⟩ := H
      try dsimp only at H
      have A65 := am A650
      clear A650
      replace H := Option.bind_eq_some_iff.mp H
      obtain ⟨t438, A660, H⟩ := H
      try dsimp only at H
      have A66 := am A660
      clear A660
      by_cases c67 : t438 = true
      ·subst c67
       have H1 : ((tnum_And.f t420 t421 t423 t424).bind fun bt439 => ((tnum_And.f t413 t414 t415 t416).bind fun bt441 => ((tnum_In.f bt439.1 bt439.2 bt441.1 bt441.2).bind fun t443 => (if t443 = true then ((tnum_Or.f t420 t421 t423 t424).bind fun bt444 => ((tnum_Or.f t413 t414 t415 t416).bind fun bt446 => ((tnum_In.f bt444.1 bt444.2 bt446.1 bt446.2).bind fun t448 => (if t448 = true then ((tnum_Xor.f t420 t421 t423 t424).bind fun bt449 => ((tnum_Xor.f t413 t414 t415 t416).bind fun bt451 => ((tnum_In.f bt449.1 bt449.2 bt451.1 bt451.2).bind fun t453 => (wardenlaw03_TnumOrder.j1 kj13 a0 a2 (IntKind.u64.wrap (a6)) (!t453) t413 t414 t420 t421 t423 t424)))) else (wardenlaw03_TnumOrder.j1 kj13 a0 a2 (IntKind.u64.wrap (a6)) true t413 t414 t420 t421 t423 t424))))) else (wardenlaw03_TnumOrder.j1 kj13 a0 a2 (IntKind.u64.wrap (a6)) true t413 t414 t420 t421 t423 t424))))) = some r := by rw [if_pos rfl] at H; exact H
       clear H
       have H := H1
       clear H1
       replace H := Option.bind_eq_some_iff.mp H
       obtain ⟨⟨t439, t440⟩, A680, H⟩ := H
       try dsimp only at H
       have A68 := am A680
       clear A680
       replace H := Option.bind_eq_some_iff.mp H
       obtain ⟨⟨t441, t442⟩, A690, H⟩ := H
       try dsimp only at H
       have A69 := am A690
       clear A690
       replace H := Option.bind_eq_some_iff.mp H
       obtain ⟨t443, A700, H⟩ := H
       try dsimp only at H
       have A70 := am A700
       clear A700
       by_cases c71 : t443 = true
       ·subst c71
        have H1 : ((tnum_Or.f t420 t421 t423 t424).bind fun bt444 => ((tnum_Or.f t413 t414 t415 t416).bind fun bt446 => ((tnum_In.f bt444.1 bt444.2 bt446.1 bt446.2).bind fun t448 => (if t448 = true then ((tnum_Xor.f t420 t421 t423 t424).bind fun bt449 => ((tnum_Xor.f t413 t414 t415 t416).bind fun bt451 => ((tnum_In.f bt449.1 bt449.2 bt451.1 bt451.2).bind fun t453 => (wardenlaw03_TnumOrder.j1 kj13 a0 a2 (IntKind.u64.wrap (a6)) (!t453) t413 t414 t420 t421 t423 t424)))) else (wardenlaw03_TnumOrder.j1 kj13 a0 a2 (IntKind.u64.wrap (a6)) true t413 t414 t420 t421 t423 t424))))) = some r := by rw [if_pos rfl] at H; exact H
        clear H
        have H := H1
        clear H1
        replace H := Option.bind_eq_some_iff.mp H
        obtain ⟨⟨t444, t445⟩, A720, H⟩ := H
        try dsimp only at H
        have A72 := am A720
        clear A720
        replace H := Option.bind_eq_some_iff.mp H
        obtain ⟨⟨t446, t447⟩, A730, H⟩ := H
        try dsimp only at H
        have A73 := am A730
        clear A730
        replace H := Option.bind_eq_some_iff.mp H
        obtain ⟨t448, A740, H⟩ := H
        try dsimp only at H
        have A74 := am A740
        clear A740
        by_cases c75 : t448 = true
        ·subst c75
         have H1 : ((tnum_Xor.f t420 t421 t423 t424).bind fun bt449 => ((tnum_Xor.f t413 t414 t415 t416).bind fun bt451 => ((tnum_In.f bt449.1 bt449.2 bt451.1 bt451.2).bind fun t453 => (wardenlaw03_TnumOrder.j1 kj13 a0 a2 (IntKind.u64.wrap (a6)) (!t453) t413 t414 t420 t421 t423 t424)))) = some r := by rw [if_pos rfl] at H; exact H
         clear H
         have H := H1
         clear H1
         replace H := Option.bind_eq_some_iff.mp H
         obtain ⟨⟨t449, t450⟩, A760, H⟩ := H
         try dsimp only at H
         have A76 := am A760
         clear A760
         replace H := Option.bind_eq_some_iff.mp H
         obtain ⟨⟨t451, t452⟩, A770, H⟩ := H
         try dsimp only at H
         have A77 := am A770
         clear A770
         replace H := Option.bind_eq_some_iff.mp H
         obtain ⟨t453, A780, H⟩ := H
         try dsimp only at H
         have A78 := am A780
         clear A780
         have H' := am H
         clear H
         try go_wp2
         have n0_ := am (blk_drew BK417.out)
         have n1_ := am (blk_drew BK418.out)
         have n2_ := am (blk_drew BK425.out)
         have n3_ := am (blk_drew BK426.out)
         have n4_ := am (below_drew1 HB.out)
         clear BK417
         clear BK418
         clear BK425
         clear BK426
         clear HB
         have BK417 := n0_
         have BK418 := n1_
         have BK425 := n2_
         have BK426 := n3_
         have HB := n4_
         clear n0_ n1_ n2_ n3_ n4_
         refine start_ (n := 48) (S := fun w' => w'.cell? ⟨gb425, 0, none⟩ = some (.int .u64 t420) ∧ w'.cell? ⟨gb425, 1, none⟩ = some (.int .u64 t421) ∧ w'.cell? ⟨gb426, 0, none⟩ = some (.int .u64 t423) ∧ w'.cell? ⟨gb426, 1, none⟩ = some (.int .u64 t424) ∧ w'.cell? ⟨gb417, 0, none⟩ = some (.int .u64 t413) ∧ w'.cell? ⟨gb417, 1, none⟩ = some (.int .u64 t414) ∧ w'.cell? ⟨gb418, 0, none⟩ = some (.int .u64 t415) ∧ w'.cell? ⟨gb418, 1, none⟩ = some (.int .u64 t416)) (ds := []) (ar 48 0) (by kernel_rfl) rfl rfl ⟨(blk_cell BK425.out 0).trans rfl, (blk_cell BK425.out 1).trans rfl, (blk_cell BK426.out 0).trans rfl, (blk_cell BK426.out 1).trans rfl, (blk_cell BK417.out 0).trans rfl, (blk_cell BK417.out 1).trans rfl, (blk_cell BK418.out 0).trans rfl, (blk_cell BK418.out 1).trans rfl⟩ (fun hHeld => ?_); refine with_tabW wardenlaw03_TnumOrder.tab6 wardenlaw03_TnumOrder.bits6 (fun HT_ HW_ => ?_)
         generalize wc.drew = w79 at BK417 BK418 BK425 BK426 HB hHeld ⊢
         refine take_ (i := 0) (N := some 54) (v := ?_) (a' := ?_) (ar 48 1) rfl rfl (take_ofW HT_.out HW_.out (by kernel_rfl)) (fun _ _ _ h => h) (Or.inl ⟨by rfl, ?_⟩) hHeld ?_ ?_
         rotate_left
         ·rintro w' ⟨s0, s1, s2, s3, s4, s5, s6, s7⟩
          go_simp
          with_reducible rfl
         rotate_left
         ·simp only [Act.put, q1, q2, q3, i64_w, i32_w]
          rfl
         refine take_ (i := 1) (N := some 55) (v := ?_) (a' := ?_) (ar 48 3) rfl rfl (take_ofW HT_.out HW_.out (by kernel_rfl)) (fun _ _ _ h => h) (Or.inl ⟨by rfl, ?_⟩) hHeld ?_ ?_
         rotate_left
         ·rintro w' ⟨s0, s1, s2, s3, s4, s5, s6, s7⟩
          go_simp
          with_reducible rfl
         rotate_left
         ·simp only [Act.put, q1, q2, q3, i64_w, i32_w]
          rfl
         refine take_ (i := 3) (N := some 57) (v := ?_) (a' := ?_) (ar 48 11) rfl rfl (take_ofW HT_.out HW_.out (by kernel_rfl)) (fun _ _ _ h => h) (Or.inl ⟨by rfl, ?_⟩) hHeld ?_ ?_
         rotate_left
         ·rintro w' ⟨s0, s1, s2, s3, s4, s5, s6, s7⟩
          go_simp
          with_reducible rfl
         rotate_left
         ·simp only [Act.put, q1, q2, q3, i64_w, i32_w]
          rfl
         refine take_ (i := 4) (N := some 58) (v := ?_) (a' := ?_) (ar 48 27) rfl rfl (take_ofW HT_.out HW_.out (by kernel_rfl)) (fun _ _ _ h => h) (Or.inl ⟨by rfl, ?_⟩) hHeld ?_ ?_
         rotate_left
         ·rintro w' ⟨s0, s1, s2, s3, s4, s5, s6, s7⟩
          go_simp
          with_reducible rfl
         rotate_left
         ·simp only [Act.put, q1, q2, q3, i64_w, i32_w]
          rfl
         refine one_ (i := 2) (N := some 56) (ar 48 31) rfl rfl (one_of HT_.out (by kernel_rfl)) (by decide) (fun K hK => ?_)
         refine goes_ Try.func29 (by kernel_rfl) rfl #[.agg #[.int .u64 t420, .int .u64 t421], .agg #[.int .u64 t423, .int .u64 t424]] (by rfl) rfl rfl (by (try simp only [List.map_toArray, List.map_cons, List.map_nil]); first | done | rfl) ?_
         with_reducible refine (tnum_Add.calls t420 t421 t423 t424 t429 t430 _ A60.out).mono ?_
         rintro e w80 ⟨rfl, hb⟩
         refine ⟨_, rfl, ?_⟩
         have n0_ := am (blk_below BK417.out hb)
         have n1_ := am (blk_below BK418.out hb)
         have n2_ := am (blk_below BK425.out hb)
         have n3_ := am (blk_below BK426.out hb)
         have n4_ := am (below_step (by repeat (first | exact HB.out | refine below_set ?_ GE417.out | refine below_set ?_ GE418.out | refine below_set ?_ GE425.out | refine below_set ?_ GE426.out)) hb)
         clear BK417
         clear BK418
         clear BK425
         clear BK426
         clear HB
         have BK417 := n0_
         have BK418 := n1_
         have BK425 := n2_
         have BK426 := n3_
         have HB := n4_
         clear n0_ n1_ n2_ n3_ n4_
         (try clear hb)
         (try clear hb2)
         (try clear hk)
         (try clear hi)
         refine hK.out _ _ ⟨(blk_cell BK425.out 0).trans rfl, (blk_cell BK425.out 1).trans rfl, (blk_cell BK426.out 0).trans rfl, (blk_cell BK426.out 1).trans rfl, (blk_cell BK417.out 0).trans rfl, (blk_cell BK417.out 1).trans rfl, (blk_cell BK418.out 0).trans rfl, (blk_cell BK418.out 1).trans rfl⟩ (fun hHeld => ?_)
         clear hK K
         refine norm_ (a' := ?_) ?_ ?_
         rotate_left
         ·show Act.put _ (some 56) _ = _
          simp only [Act.put, q1, q2, q3, i64_w, i32_w]
          rfl
         refine one_ (i := 5) (N := some 59) (ar 48 63) rfl rfl (one_of HT_.out (by kernel_rfl)) (by decide) (fun K hK => ?_)
         refine goes_ Try.func29 (by kernel_rfl) rfl #[.agg #[.int .u64 t413, .int .u64 t414], .agg #[.int .u64 t415, .int .u64 t416]] (by rfl) rfl rfl (by (try simp only [List.map_toArray, List.map_cons, List.map_nil]); first | done | rfl) ?_
         with_reducible refine (tnum_Add.calls t413 t414 t415 t416 t431 t432 _ A61.out).mono ?_
         rintro e w81 ⟨rfl, hb⟩
         refine ⟨_, rfl, ?_⟩
         have n0_ := am (blk_below BK417.out hb)
         have n1_ := am (blk_below BK418.out hb)
         have n2_ := am (blk_below BK425.out hb)
         have n3_ := am (blk_below BK426.out hb)
         have n4_ := am (below_step (by repeat (first | exact HB.out | refine below_set ?_ GE417.out | refine below_set ?_ GE418.out | refine below_set ?_ GE425.out | refine below_set ?_ GE426.out)) hb)
         clear BK417
         clear BK418
         clear BK425
         clear BK426
         clear HB
         have BK417 := n0_
         have BK418 := n1_
         have BK425 := n2_
         have BK426 := n3_
         have HB := n4_
         clear n0_ n1_ n2_ n3_ n4_
         (try clear hb)
         (try clear hb2)
         (try clear hk)
         (try clear hi)
         refine hK.out _ _ ⟨(blk_cell BK425.out 0).trans rfl, (blk_cell BK425.out 1).trans rfl, (blk_cell BK426.out 0).trans rfl, (blk_cell BK426.out 1).trans rfl, (blk_cell BK417.out 0).trans rfl, (blk_cell BK417.out 1).trans rfl, (blk_cell BK418.out 0).trans rfl, (blk_cell BK418.out 1).trans rfl⟩ (fun hHeld => ?_)
         clear hK K
         refine norm_ (a' := ?_) ?_ ?_
         rotate_left
         ·show Act.put _ (some 59) _ = _
          simp only [Act.put, q1, q2, q3, i64_w, i32_w]
          rfl
         refine one_ (i := 6) (N := some 60) (ar 48 127) rfl rfl (one_of HT_.out (by kernel_rfl)) (by decide) (fun K hK => ?_)
         refine goes_ Try.func15 (by kernel_rfl) rfl #[.agg #[.int .u64 t429, .int .u64 t430], .agg #[.int .u64 t431, .int .u64 t432]] (by rfl) rfl rfl (by (try simp only [List.map_toArray, List.map_cons, List.map_nil]); first | done | rfl) ?_
         with_reducible refine (tnum_In.calls t429 t430 t431 t432 true _ A62.out).mono ?_
         rintro e w82 ⟨rfl, hb⟩
         refine ⟨_, rfl, ?_⟩
         have n0_ := am (blk_below BK417.out hb)
         have n1_ := am (blk_below BK418.out hb)
         have n2_ := am (blk_below BK425.out hb)
         have n3_ := am (blk_below BK426.out hb)
         have n4_ := am (below_step (by repeat (first | exact HB.out | refine below_set ?_ GE417.out | refine below_set ?_ GE418.out | refine below_set ?_ GE425.out | refine below_set ?_ GE426.out)) hb)
         clear BK417
         clear BK418
         clear BK425
         clear BK426
         clear HB
         have BK417 := n0_
         have BK418 := n1_
         have BK425 := n2_
         have BK426 := n3_
         have HB := n4_
         clear n0_ n1_ n2_ n3_ n4_
         (try clear hb)
         (try clear hb2)
         (try clear hk)
         (try clear hi)
         refine hK.out _ _ ⟨(blk_cell BK425.out 0).trans rfl, (blk_cell BK425.out 1).trans rfl, (blk_cell BK426.out 0).trans rfl, (blk_cell BK426.out 1).trans rfl, (blk_cell BK417.out 0).trans rfl, (blk_cell BK417.out 1).trans rfl, (blk_cell BK418.out 0).trans rfl, (blk_cell BK418.out 1).trans rfl⟩ (fun hHeld => ?_)
         clear hK K
         refine norm_ (a' := ?_) ?_ ?_
         rotate_left
         ·show Act.put _ (some 60) _ = _
          simp only [Act.put, q1, q2, q3, i64_w, i32_w]
          rfl
         refine pure_ (i := 7) (N := some 61) (v := ?_) (a' := ?_) (ar 48 255) rfl rfl (any_of HT_.out (by kernel_rfl)) (fun _ _ _ h => h) (Or.inl ⟨by rfl, ?_⟩) ?_ ?_
         rotate_left
         ·intro w'
          go_simp
          with_reducible rfl
         rotate_left
         ·simp only [Act.put, q1, q2, q3, i64_w, i32_w]
          rfl
         refine pure_ (i := 8) (N := some 62) (v := ?_) (a' := ?_) (ar 48 511) rfl rfl (any_of HT_.out (by kernel_rfl)) (fun _ _ _ h => h) (Or.inl ⟨by rfl, ?_⟩) ?_ ?_
         rotate_left
         ·intro w'
          go_simp
          with_reducible rfl
         rotate_left
         ·simp only [Act.put, q1, q2, q3, i64_w, i32_w]
          rfl
         refine take_ (i := 9) (N := some 63) (v := ?_) (a' := ?_) (ar 48 1023) rfl rfl (take_ofW HT_.out HW_.out (by kernel_rfl)) (fun _ _ _ h => h) (Or.inl ⟨by rfl, ?_⟩) hHeld ?_ ?_
         rotate_left
         ·rintro w' ⟨s0, s1, s2, s3, s4, s5, s6, s7⟩
          go_simp
          with_reducible rfl
         rotate_left
         ·simp only [Act.put, q1, q2, q3, i64_w, i32_w]
          rfl
         refine take_ (i := 10) (N := some 64) (v := ?_) (a' := ?_) (ar 48 2047) rfl rfl (take_ofW HT_.out HW_.out (by kernel_rfl)) (fun _ _ _ h => h) (Or.inl ⟨by rfl, ?_⟩) hHeld ?_ ?_
         rotate_left
         ·rintro w' ⟨s0, s1, s2, s3, s4, s5, s6, s7⟩
          go_simp
          with_reducible rfl
         rotate_left
         ·simp only [Act.put, q1, q2, q3, i64_w, i32_w]
          rfl
         refine take_ (i := 12) (N := some 66) (v := ?_) (a' := ?_) (ar 48 6143) rfl rfl (take_ofW HT_.out HW_.out (by kernel_rfl)) (fun _ _ _ h => h) (Or.inl ⟨by rfl, ?_⟩) hHeld ?_ ?_
         rotate_left
         ·rintro w' ⟨s0, s1, s2, s3, s4, s5, s6, s7⟩
          go_simp
          with_reducible rfl
         rotate_left
         ·simp only [Act.put, q1, q2, q3, i64_w, i32_w]
          rfl
         refine take_ (i := 13) (N := some 67) (v := ?_) (a' := ?_) (ar 48 14335) rfl rfl (take_ofW HT_.out HW_.out (by kernel_rfl)) (fun _ _ _ h => h) (Or.inl ⟨by rfl, ?_⟩) hHeld ?_ ?_
         rotate_left
         ·rintro w' ⟨s0, s1, s2, s3, s4, s5, s6, s7⟩
          go_simp
          with_reducible rfl
         rotate_left
         ·simp only [Act.put, q1, q2, q3, i64_w, i32_w]
          rfl
         refine one_ (i := 11) (N := some 65) (ar 48 16383) rfl rfl (one_of HT_.out (by kernel_rfl)) (by decide) (fun K hK => ?_)
         refine goes_ Try.func31 (by kernel_rfl) rfl #[.agg #[.int .u64 t420, .int .u64 t421], .agg #[.int .u64 t423, .int .u64 t424]] (by rfl) rfl rfl (by (try simp only [List.map_toArray, List.map_cons, List.map_nil]); first | done | rfl) ?_
         with_reducible refine (tnum_Sub.calls t420 t421 t423 t424 t434 t435 _ A64.out).mono ?_
         rintro e w83 ⟨rfl, hb⟩
         refine ⟨_, rfl, ?_⟩
         have n0_ := am (blk_below BK417.out hb)
         have n1_ := am (blk_below BK418.out hb)
         have n2_ := am (blk_below BK425.out hb)
         have n3_ := am (blk_below BK426.out hb)
         have n4_ := am (below_step (by repeat (first | exact HB.out | refine below_set ?_ GE417.out | refine below_set ?_ GE418.out | refine below_set ?_ GE425.out | refine below_set ?_ GE426.out)) hb)
         clear BK417
         clear BK418
         clear BK425
         clear BK426
         clear HB
         have BK417 := n0_
         have BK418 := n1_
         have BK425 := n2_
         have BK426 := n3_
         have HB := n4_
         clear n0_ n1_ n2_ n3_ n4_
         (try clear hb)
         (try clear hb2)
         (try clear hk)
         (try clear hi)
         refine hK.out _ _ ⟨(blk_cell BK425.out 0).trans rfl, (blk_cell BK425.out 1).trans rfl, (blk_cell BK426.out 0).trans rfl, (blk_cell BK426.out 1).trans rfl, (blk_cell BK417.out 0).trans rfl, (blk_cell BK417.out 1).trans rfl, (blk_cell BK418.out 0).trans rfl, (blk_cell BK418.out 1).trans rfl⟩ (fun hHeld => ?_)
         clear hK K
         refine norm_ (a' := ?_) ?_ ?_
         rotate_left
         ·show Act.put _ (some 65) _ = _
          simp only [Act.put, q1, q2, q3, i64_w, i32_w]
          rfl
         refine one_ (i := 14) (N := some 68) (ar 48 32767) rfl rfl (one_of HT_.out (by kernel_rfl)) (by decide) (fun K hK => ?_)
         refine goes_ Try.func31 (by kernel_rfl) rfl #[.agg #[.int .u64 t413, .int .u64 t414], .agg #[.int .u64 t415, .int .u64 t416]] (by rfl) rfl rfl (by (try simp only [List.map_toArray, List.map_cons, List.map_nil]); first | done | rfl) ?_
         with_reducible refine (tnum_Sub.calls t413 t414 t415 t416 t436 t437 _ A65.out).mono ?_
         rintro e w84 ⟨rfl, hb⟩
         refine ⟨_, rfl, ?_⟩
         have n0_ := am (blk_below BK417.out hb)
         have n1_ := am (blk_below BK418.out hb)
         have n2_ := am (blk_below BK425.out hb)
         have n3_ := am (blk_below BK426.out hb)
         have n4_ := am (below_step (by repeat (first | exact HB.out | refine below_set ?_ GE417.out | refine below_set ?_ GE418.out | refine below_set ?_ GE425.out | refine below_set ?_ GE426.out)) hb)
         clear BK417
         clear BK418
         clear BK425
         clear BK426
         clear HB
         have BK417 := n0_
         have BK418 := n1_
         have BK425 := n2_
         have BK426 := n3_
         have HB := n4_
         clear n0_ n1_ n2_ n3_ n4_
         (try clear hb)
         (try clear hb2)
         (try clear hk)
         (try clear hi)
         refine hK.out _ _ ⟨(blk_cell BK425.out 0).trans rfl, (blk_cell BK425.out 1).trans rfl, (blk_cell BK426.out 0).trans rfl, (blk_cell BK426.out 1).trans rfl, (blk_cell BK417.out 0).trans rfl, (blk_cell BK417.out 1).trans rfl, (blk_cell BK418.out 0).trans rfl, (blk_cell BK418.out 1).trans rfl⟩ (fun hHeld => ?_)
         clear hK K
         refine norm_ (a' := ?_) ?_ ?_
         rotate_left
         ·show Act.put _ (some 68) _ = _
          simp only [Act.put, q1, q2, q3, i64_w, i32_w]
          rfl
         refine one_ (i := 15) (N := some 69) (ar 48 65535) rfl rfl (one_of HT_.out (by kernel_rfl)) (by decide) (fun K hK => ?_)
         refine goes_ Try.func15 (by kernel_rfl) rfl #[.agg #[.int .u64 t434, .int .u64 t435], .agg #[.int .u64 t436, .int .u64 t437]] (by rfl) rfl rfl (by (try simp only [List.map_toArray, List.map_cons, List.map_nil]); first | done | rfl) ?_
         with_reducible refine (tnum_In.calls t434 t435 t436 t437 true _ A66.out).mono ?_
         rintro e w85 ⟨rfl, hb⟩
         refine ⟨_, rfl, ?_⟩
         have n0_ := am (blk_below BK417.out hb)
         have n1_ := am (blk_below BK418.out hb)
         have n2_ := am (blk_below BK425.out hb)
         have n3_ := am (blk_below BK426.out hb)
         have n4_ := am (below_step (by repeat (first | exact HB.out | refine below_set ?_ GE417.out | refine below_set ?_ GE418.out | refine below_set ?_ GE425.out | refine below_set ?_ GE426.out)) hb)
         clear BK417
         clear BK418
         clear BK425
         clear BK426
         clear HB
         have BK417 := n0_
         have BK418 := n1_
         have BK425 := n2_
         have BK426 := n3_
         have HB := n4_
         clear n0_ n1_ n2_ n3_ n4_
         (try clear hb)
         (try clear hb2)
         (try clear hk)
         (try clear hi)
         refine hK.out _ _ ⟨(blk_cell BK425.out 0).trans rfl, (blk_cell BK425.out 1).trans rfl, (blk_cell BK426.out 0).trans rfl, (blk_cell BK426.out 1).trans rfl, (blk_cell BK417.out 0).trans rfl, (blk_cell BK417.out 1).trans rfl, (blk_cell BK418.out 0).trans rfl, (blk_cell BK418.out 1).trans rfl⟩ (fun hHeld => ?_)
         clear hK K
         refine norm_ (a' := ?_) ?_ ?_
         rotate_left
         ·show Act.put _ (some 69) _ = _
          simp only [Act.put, q1, q2, q3, i64_w, i32_w]
          rfl
         refine pure_ (i := 16) (N := some 70) (v := ?_) (a' := ?_) (ar 48 131071) rfl rfl (any_of HT_.out (by kernel_rfl)) (fun _ _ _ h => h) (Or.inl ⟨by rfl, ?_⟩) ?_ ?_
         rotate_left
         ·intro w'
          go_simp
          with_reducible rfl
         rotate_left
         ·simp only [Act.put, q1, q2, q3, i64_w, i32_w]
          rfl
         refine pure_ (i := 17) (N := some 71) (v := ?_) (a' := ?_) (ar 48 262143) rfl rfl (any_of HT_.out (by kernel_rfl)) (fun _ _ _ h => h) (Or.inl ⟨by rfl, ?_⟩) ?_ ?_
         rotate_left
         ·intro w'
          go_simp
          with_reducible rfl
         rotate_left
         ·simp only [Act.put, q1, q2, q3, i64_w, i32_w]
          rfl
         refine pure_ (i := 18) (N := some 72) (v := ?_) (a' := ?_) (ar 48 524287) rfl rfl (any_of HT_.out (by kernel_rfl)) (fun _ _ _ h => h) (Or.inl ⟨by rfl, ?_⟩) ?_ ?_
         rotate_left
         ·intro w'
          go_simp
          with_reducible rfl
         rotate_left
         ·simp only [Act.put, q1, q2, q3, i64_w, i32_w]
          rfl
         refine take_ (i := 19) (N := some 73) (v := ?_) (a' := ?_) (ar 48 1048575) rfl rfl (take_ofW HT_.out HW_.out (by kernel_rfl)) (fun _ _ _ h => h) (Or.inl ⟨by rfl, ?_⟩) hHeld ?_ ?_
         rotate_left
         ·rintro w' ⟨s0, s1, s2, s3, s4, s5, s6, s7⟩
          go_simp
          with_reducible rfl
         rotate_left
         ·simp only [Act.put, q1, q2, q3, i64_w, i32_w]
          rfl
         refine take_ (i := 20) (N := some 74) (v := ?_) (a' := ?_) (ar 48 2097151) rfl rfl (take_ofW HT_.out HW_.out (by kernel_rfl)) (fun _ _ _ h => h) (Or.inl ⟨by rfl, ?_⟩) hHeld ?_ ?_
         rotate_left
         ·rintro w' ⟨s0, s1, s2, s3, s4, s5, s6, s7⟩
          go_simp
          with_reducible rfl
         rotate_left
         ·simp only [Act.put, q1, q2, q3, i64_w, i32_w]
          rfl
         refine take_ (i := 22) (N := some 76) (v := ?_) (a' := ?_) (ar 48 6291455) rfl rfl (take_ofW HT_.out HW_.out (by kernel_rfl)) (fun _ _ _ h => h) (Or.inl ⟨by rfl, ?_⟩) hHeld ?_ ?_
         rotate_left
         ·rintro w' ⟨s0, s1, s2, s3, s4, s5, s6, s7⟩
          go_simp
          with_reducible rfl
         rotate_left
         ·simp only [Act.put, q1, q2, q3, i64_w, i32_w]
          rfl
         refine take_ (i := 23) (N := some 77) (v := ?_) (a' := ?_) (ar 48 14680063) rfl rfl (take_ofW HT_.out HW_.out (by kernel_rfl)) (fun _ _ _ h => h) (Or.inl ⟨by rfl, ?_⟩) hHeld ?_ ?_
         rotate_left
         ·rintro w' ⟨s0, s1, s2, s3, s4, s5, s6, s7⟩
          go_simp
          with_reducible rfl
         rotate_left
         ·simp only [Act.put, q1, q2, q3, i64_w, i32_w]
          rfl
         refine one_ (i := 21) (N := some 75) (ar 48 16777215) rfl rfl (one_of HT_.out (by kernel_rfl)) (by decide) (fun K hK => ?_)
         refine goes_ Try.func27 (by kernel_rfl) rfl #[.agg #[.int .u64 t420, .int .u64 t421], .agg #[.int .u64 t423, .int .u64 t424]] (by rfl) rfl rfl (by (try simp only [List.map_toArray, List.map_cons, List.map_nil]); first | done | rfl) ?_
         with_reducible refine (tnum_And.calls t420 t421 t423 t424 t439 t440 _ A68.out).mono ?_
         rintro e w86 ⟨rfl, hb⟩
         refine ⟨_, rfl, ?_⟩
         have n0_ := am (blk_below BK417.out hb)
         have n1_ := am (blk_below BK418.out hb)
         have n2_ := am (blk_below BK425.out hb)
         have n3_ := am (blk_below BK426.out hb)
         have n4_ := am (below_step (by repeat (first | exact HB.out | refine below_set ?_ GE417.out | refine below_set ?_ GE418.out | refine below_set ?_ GE425.out | refine below_set ?_ GE426.out)) hb)
         clear BK417
         clear BK418
         clear BK425
         clear BK426
         clear HB
         have BK417 := n0_
         have BK418 := n1_
         have BK425 := n2_
         have BK426 := n3_
         have HB := n4_
         clear n0_ n1_ n2_ n3_ n4_
         (try clear hb)
         (try clear hb2)
         (try clear hk)
         (try clear hi)
         refine hK.out _ _ ⟨(blk_cell BK425.out 0).trans rfl, (blk_cell BK425.out 1).trans rfl, (blk_cell BK426.out 0).trans rfl, (blk_cell BK426.out 1).trans rfl, (blk_cell BK417.out 0).trans rfl, (blk_cell BK417.out 1).trans rfl, (blk_cell BK418.out 0).trans rfl, (blk_cell BK418.out 1).trans rfl⟩ (fun hHeld => ?_)
         clear hK K
         refine norm_ (a' := ?_) ?_ ?_
         rotate_left
         ·show Act.put _ (some 75) _ = _
          simp only [Act.put, q1, q2, q3, i64_w, i32_w]
          rfl
         refine one_ (i := 24) (N := some 78) (ar 48 33554431) rfl rfl (one_of HT_.out (by kernel_rfl)) (by decide) (fun K hK => ?_)
         refine goes_ Try.func27 (by kernel_rfl) rfl #[.agg #[.int .u64 t413, .int .u64 t414], .agg #[.int .u64 t415, .int .u64 t416]] (by rfl) rfl rfl (by (try simp only [List.map_toArray, List.map_cons, List.map_nil]); first | done | rfl) ?_
         with_reducible refine (tnum_And.calls t413 t414 t415 t416 t441 t442 _ A69.out).mono ?_
         rintro e w87 ⟨rfl, hb⟩
         refine ⟨_, rfl, ?_⟩
         have n0_ := am (blk_below BK417.out hb)
         have n1_ := am (blk_below BK418.out hb)
         have n2_ := am (blk_below BK425.out hb)
         have n3_ := am (blk_below BK426.out hb)
         have n4_ := am (below_step (by repeat (first | exact HB.out | refine below_set ?_ GE417.out | refine below_set ?_ GE418.out | refine below_set ?_ GE425.out | refine below_set ?_ GE426.out)) hb)
         clear BK417
         clear BK418
         clear BK425
         clear BK426
         clear HB
         have BK417 := n0_
         have BK418 := n1_
         have BK425 := n2_
         have BK426 := n3_
         have HB := n4_
         clear n0_ n1_ n2_ n3_ n4_
         (try clear hb)
         (try clear hb2)
         (try clear hk)
         (try clear hi)
         refine hK.out _ _ ⟨(blk_cell BK425.out 0).trans rfl, (blk_cell BK425.out 1).trans rfl, (blk_cell BK426.out 0).trans rfl, (blk_cell BK426.out 1).trans rfl, (blk_cell BK417.out 0).trans rfl, (blk_cell BK417.out 1).trans rfl, (blk_cell BK418.out 0).trans rfl, (blk_cell BK418.out 1).trans rfl⟩ (fun hHeld => ?_)
         clear hK K
         refine norm_ (a' := ?_) ?_ ?_
         rotate_left
         ·show Act.put _ (some 78) _ = _
          simp only [Act.put, q1, q2, q3, i64_w, i32_w]
          rfl
         refine one_ (i := 25) (N := some 79) (ar 48 67108863) rfl rfl (one_of HT_.out (by kernel_rfl)) (by decide) (fun K hK => ?_)
         refine goes_ Try.func15 (by kernel_rfl) rfl #[.agg #[.int .u64 t439, .int .u64 t440], .agg #[.int .u64 t441, .int .u64 t442]] (by rfl) rfl rfl (by (try simp only [List.map_toArray, List.map_cons, List.map_nil]); first | done | rfl) ?_
         with_reducible refine (tnum_In.calls t439 t440 t441 t442 true _ A70.out).mono ?_
         rintro e w88 ⟨rfl, hb⟩
         refine ⟨_, rfl, ?_⟩
         have n0_ := am (blk_below BK417.out hb)
         have n1_ := am (blk_below BK418.out hb)
         have n2_ := am (blk_below BK425.out hb)
         have n3_ := am (blk_below BK426.out hb)
         have n4_ := am (below_step (by repeat (first | exact HB.out | refine below_set ?_ GE417.out | refine below_set ?_ GE418.out | refine below_set ?_ GE425.out | refine below_set ?_ GE426.out)) hb)
         clear BK417
         clear BK418
         clear BK425
         clear BK426
         clear HB
         have BK417 := n0_
         have BK418 := n1_
         have BK425 := n2_
         have BK426 := n3_
         have HB := n4_
         clear n0_ n1_ n2_ n3_ n4_
         (try clear hb)
         (try clear hb2)
         (try clear hk)
         (try clear hi)
         refine hK.out _ _ ⟨(blk_cell BK425.out 0).trans rfl, (blk_cell BK425.out 1).trans rfl, (blk_cell BK426.out 0).trans rfl, (blk_cell BK426.out 1).trans rfl, (blk_cell BK417.out 0).trans rfl, (blk_cell BK417.out 1).trans rfl, (blk_cell BK418.out 0).trans rfl, (blk_cell BK418.out 1).trans rfl⟩ (fun hHeld => ?_)
         clear hK K
         refine norm_ (a' := ?_) ?_ ?_
         rotate_left
         ·show Act.put _ (some 79) _ = _
          simp only [Act.put, q1, q2, q3, i64_w, i32_w]
          rfl
         refine pure_ (i := 26) (N := some 80) (v := ?_) (a' := ?_) (ar 48 134217727) rfl rfl (any_of HT_.out (by kernel_rfl)) (fun _ _ _ h => h) (Or.inl ⟨by rfl, ?_⟩) ?_ ?_
         rotate_left
         ·intro w'
          go_simp
          with_reducible rfl
         rotate_left
         ·simp only [Act.put, q1, q2, q3, i64_w, i32_w]
          rfl
         refine pure_ (i := 27) (N := some 81) (v := ?_) (a' := ?_) (ar 48 268435455) rfl rfl (any_of HT_.out (by kernel_rfl)) (fun _ _ _ h => h) (Or.inl ⟨by rfl, ?_⟩) ?_ ?_
         rotate_left
         ·intro w'
          go_simp
          with_reducible rfl
         rotate_left
         ·simp only [Act.put, q1, q2, q3, i64_w, i32_w]
          rfl
         refine pure_ (i := 28) (N := some 82) (v := ?_) (a' := ?_) (ar 48 536870911) rfl rfl (any_of HT_.out (by kernel_rfl)) (fun _ _ _ h => h) (Or.inl ⟨by rfl, ?_⟩) ?_ ?_
         rotate_left
         ·intro w'
          go_simp
          with_reducible rfl
         rotate_left
         ·simp only [Act.put, q1, q2, q3, i64_w, i32_w]
          rfl
         refine take_ (i := 29) (N := some 83) (v := ?_) (a' := ?_) (ar 48 1073741823) rfl rfl (take_ofW HT_.out HW_.out (by kernel_rfl)) (fun _ _ _ h => h) (Or.inl ⟨by rfl, ?_⟩) hHeld ?_ ?_
         rotate_left
         ·rintro w' ⟨s0, s1, s2, s3, s4, s5, s6, s7⟩
          go_simp
          with_reducible rfl
         rotate_left
         ·simp only [Act.put, q1, q2, q3, i64_w, i32_w]
          rfl
         refine take_ (i := 30) (N := some 84) (v := ?_) (a' := ?_) (ar 48 2147483647) rfl rfl (take_ofW HT_.out HW_.out (by kernel_rfl)) (fun _ _ _ h => h) (Or.inl ⟨by rfl, ?_⟩) hHeld ?_ ?_
         rotate_left
         ·rintro w' ⟨s0, s1, s2, s3, s4, s5, s6, s7⟩
          go_simp
          with_reducible rfl
         rotate_left
         ·simp only [Act.put, q1, q2, q3, i64_w, i32_w]
          rfl
         refine take_ (i := 32) (N := some 86) (v := ?_) (a' := ?_) (ar 48 6442450943) rfl rfl (take_ofW HT_.out HW_.out (by kernel_rfl)) (fun _ _ _ h => h) (Or.inl ⟨by rfl, ?_⟩) hHeld ?_ ?_
         rotate_left
         ·rintro w' ⟨s0, s1, s2, s3, s4, s5, s6, s7⟩
          go_simp
          with_reducible rfl
         rotate_left
         ·simp only [Act.put, q1, q2, q3, i64_w, i32_w]
          rfl
         refine take_ (i := 33) (N := some 87) (v := ?_) (a' := ?_) (ar 48 15032385535) rfl rfl (take_ofW HT_.out HW_.out (by kernel_rfl)) (fun _ _ _ h => h) (Or.inl ⟨by rfl, ?_⟩) hHeld ?_ ?_
         rotate_left
         ·rintro w' ⟨s0, s1, s2, s3, s4, s5, s6, s7⟩
          go_simp
          with_reducible rfl
         rotate_left
         ·simp only [Act.put, q1, q2, q3, i64_w, i32_w]
          rfl
         refine one_ (i := 31) (N := some 85) (ar 48 17179869183) rfl rfl (one_of HT_.out (by kernel_rfl)) (by decide) (fun K hK => ?_)
         refine goes_ Try.func35 (by kernel_rfl) rfl #[.agg #[.int .u64 t420, .int .u64 t421], .agg #[.int .u64 t423, .int .u64 t424]] (by rfl) rfl rfl (by (try simp only [List.map_toArray, List.map_cons, List.map_nil]); first | done | rfl) ?_
         with_reducible refine (tnum_Or.calls t420 t421 t423 t424 t444 t445 _ A72.out).mono ?_
         rintro e w89 ⟨rfl, hb⟩
         refine ⟨_, rfl, ?_⟩
         have n0_ := am (blk_below BK417.out hb)
         have n1_ := am (blk_below BK418.out hb)
         have n2_ := am (blk_below BK425.out hb)
         have n3_ := am (blk_below BK426.out hb)
         have n4_ := am (below_step (by repeat (first | exact HB.out | refine below_set ?_ GE417.out | refine below_set ?_ GE418.out | refine below_set ?_ GE425.out | refine below_set ?_ GE426.out)) hb)
         clear BK417
         clear BK418
         clear BK425
         clear BK426
         clear HB
         have BK417 := n0_
         have BK418 := n1_
         have BK425 := n2_
         have BK426 := n3_
         have HB := n4_
         clear n0_ n1_ n2_ n3_ n4_
         (try clear hb)
         (try clear hb2)
         (try clear hk)
         (try clear hi)
         refine hK.out _ _ ⟨(blk_cell BK425.out 0).trans rfl, (blk_cell BK425.out 1).trans rfl, (blk_cell BK426.out 0).trans rfl, (blk_cell BK426.out 1).trans rfl, (blk_cell BK417.out 0).trans rfl, (blk_cell BK417.out 1).trans rfl, (blk_cell BK418.out 0).trans rfl, (blk_cell BK418.out 1).trans rfl⟩ (fun hHeld => ?_)
         clear hK K
         refine norm_ (a' := ?_) ?_ ?_
         rotate_left
         ·show Act.put _ (some 85) _ = _
          simp only [Act.put, q1, q2, q3, i64_w, i32_w]
          rfl
         refine one_ (i := 34) (N := some 88) (ar 48 34359738367) rfl rfl (one_of HT_.out (by kernel_rfl)) (by decide) (fun K hK => ?_)
         refine goes_ Try.func35 (by kernel_rfl) rfl #[.agg #[.int .u64 t413, .int .u64 t414], .agg #[.int .u64 t415, .int .u64 t416]] (by rfl) rfl rfl (by (try simp only [List.map_toArray, List.map_cons, List.map_nil]); first | done | rfl) ?_
         with_reducible refine (tnum_Or.calls t413 t414 t415 t416 t446 t447 _ A73.out).mono ?_
         rintro e w90 ⟨rfl, hb⟩
         refine ⟨_, rfl, ?_⟩
         have n0_ := am (blk_below BK417.out hb)
         have n1_ := am (blk_below BK418.out hb)
         have n2_ := am (blk_below BK425.out hb)
         have n3_ := am (blk_below BK426.out hb)
         have n4_ := am (below_step (by repeat (first | exact HB.out | refine below_set ?_ GE417.out | refine below_set ?_ GE418.out | refine below_set ?_ GE425.out | refine below_set ?_ GE426.out)) hb)
         clear BK417
         clear BK418
         clear BK425
         clear BK426
         clear HB
         have BK417 := n0_
         have BK418 := n1_
         have BK425 := n2_
         have BK426 := n3_
         have HB := n4_
         clear n0_ n1_ n2_ n3_ n4_
         (try clear hb)
         (try clear hb2)
         (try clear hk)
         (try clear hi)
         refine hK.out _ _ ⟨(blk_cell BK425.out 0).trans rfl, (blk_cell BK425.out 1).trans rfl, (blk_cell BK426.out 0).trans rfl, (blk_cell BK426.out 1).trans rfl, (blk_cell BK417.out 0).trans rfl, (blk_cell BK417.out 1).trans rfl, (blk_cell BK418.out 0).trans rfl, (blk_cell BK418.out 1).trans rfl⟩ (fun hHeld => ?_)
         clear hK K
         refine norm_ (a' := ?_) ?_ ?_
         rotate_left
         ·show Act.put _ (some 88) _ = _
          simp only [Act.put, q1, q2, q3, i64_w, i32_w]
          rfl
         refine one_ (i := 35) (N := some 89) (ar 48 68719476735) rfl rfl (one_of HT_.out (by kernel_rfl)) (by decide) (fun K hK => ?_)
         refine goes_ Try.func15 (by kernel_rfl) rfl #[.agg #[.int .u64 t444, .int .u64 t445], .agg #[.int .u64 t446, .int .u64 t447]] (by rfl) rfl rfl (by (try simp only [List.map_toArray, List.map_cons, List.map_nil]); first | done | rfl) ?_
         with_reducible refine (tnum_In.calls t444 t445 t446 t447 true _ A74.out).mono ?_
         rintro e w91 ⟨rfl, hb⟩
         refine ⟨_, rfl, ?_⟩
         have n0_ := am (blk_below BK417.out hb)
         have n1_ := am (blk_below BK418.out hb)
         have n2_ := am (blk_below BK425.out hb)
         have n3_ := am (blk_below BK426.out hb)
         have n4_ := am (below_step (by repeat (first | exact HB.out | refine below_set ?_ GE417.out | refine below_set ?_ GE418.out | refine below_set ?_ GE425.out | refine below_set ?_ GE426.out)) hb)
         clear BK417
         clear BK418
         clear BK425
         clear BK426
         clear HB
         have BK417 := n0_
         have BK418 := n1_
         have BK425 := n2_
         have BK426 := n3_
         have HB := n4_
         clear n0_ n1_ n2_ n3_ n4_
         (try clear hb)
         (try clear hb2)
         (try clear hk)
         (try clear hi)
         refine hK.out _ _ ⟨(blk_cell BK425.out 0).trans rfl, (blk_cell BK425.out 1).trans rfl, (blk_cell BK426.out 0).trans rfl, (blk_cell BK426.out 1).trans rfl, (blk_cell BK417.out 0).trans rfl, (blk_cell BK417.out 1).trans rfl, (blk_cell BK418.out 0).trans rfl, (blk_cell BK418.out 1).trans rfl⟩ (fun hHeld => ?_)
         clear hK K
         refine norm_ (a' := ?_) ?_ ?_
         rotate_left
         ·show Act.put _ (some 89) _ = _
          simp only [Act.put, q1, q2, q3, i64_w, i32_w]
          rfl
         refine pure_ (i := 36) (N := some 90) (v := ?_) (a' := ?_) (ar 48 137438953471) rfl rfl (any_of HT_.out (by kernel_rfl)) (fun _ _ _ h => h) (Or.inl ⟨by rfl, ?_⟩) ?_ ?_
         rotate_left
         ·intro w'
          go_simp
          with_reducible rfl
         rotate_left
         ·simp only [Act.put, q1, q2, q3, i64_w, i32_w]
          rfl
         refine pure_ (i := 37) (N := some 91) (v := ?_) (a' := ?_) (ar 48 274877906943) rfl rfl (any_of HT_.out (by kernel_rfl)) (fun _ _ _ h => h) (Or.inl ⟨by rfl, ?_⟩) ?_ ?_
         rotate_left
         ·intro w'
          go_simp
          with_reducible rfl
         rotate_left
         ·simp only [Act.put, q1, q2, q3, i64_w, i32_w]
          rfl
         refine pure_ (i := 38) (N := some 92) (v := ?_) (a' := ?_) (ar 48 549755813887) rfl rfl (any_of HT_.out (by kernel_rfl)) (fun _ _ _ h => h) (Or.inl ⟨by rfl, ?_⟩) ?_ ?_
         rotate_left
         ·intro w'
          go_simp
          with_reducible rfl
         rotate_left
         ·simp only [Act.put, q1, q2, q3, i64_w, i32_w]
          rfl
         refine take_ (i := 39) (N := some 93) (v := ?_) (a' := ?_) (ar 48 1099511627775) rfl rfl (take_ofW HT_.out HW_.out (by kernel_rfl)) (fun _ _ _ h => h) (Or.inl ⟨by rfl, ?_⟩) hHeld ?_ ?_
         rotate_left
         ·rintro w' ⟨s0, s1, s2, s3, s4, s5, s6, s7⟩
          go_simp
          with_reducible rfl
         rotate_left
         ·simp only [Act.put, q1, q2, q3, i64_w, i32_w]
          rfl
         refine take_ (i := 40) (N := some 94) (v := ?_) (a' := ?_) (ar 48 2199023255551) rfl rfl (take_ofW HT_.out HW_.out (by kernel_rfl)) (fun _ _ _ h => h) (Or.inl ⟨by rfl, ?_⟩) hHeld ?_ ?_
         rotate_left
         ·rintro w' ⟨s0, s1, s2, s3, s4, s5, s6, s7⟩
          go_simp
          with_reducible rfl
         rotate_left
         ·simp only [Act.put, q1, q2, q3, i64_w, i32_w]
          rfl
         refine take_ (i := 42) (N := some 96) (v := ?_) (a' := ?_) (ar 48 6597069766655) rfl rfl (take_ofW HT_.out HW_.out (by kernel_rfl)) (fun _ _ _ h => h) (Or.inl ⟨by rfl, ?_⟩) hHeld ?_ ?_
         rotate_left
         ·rintro w' ⟨s0, s1, s2, s3, s4, s5, s6, s7⟩
          go_simp
          with_reducible rfl
         rotate_left
         ·simp only [Act.put, q1, q2, q3, i64_w, i32_w]
          rfl
         refine take_ (i := 43) (N := some 97) (v := ?_) (a' := ?_) (ar 48 15393162788863) rfl rfl (take_ofW HT_.out HW_.out (by kernel_rfl)) (fun _ _ _ h => h) (Or.inl ⟨by rfl, ?_⟩) hHeld ?_ ?_
         rotate_left
         ·rintro w' ⟨s0, s1, s2, s3, s4, s5, s6, s7⟩
          go_simp
          with_reducible rfl
         rotate_left
         ·simp only [Act.put, q1, q2, q3, i64_w, i32_w]
          rfl
         refine one_ (i := 41) (N := some 95) (ar 48 17592186044415) rfl rfl (one_of HT_.out (by kernel_rfl)) (by decide) (fun K hK => ?_)
         refine goes_ Try.func36 (by kernel_rfl) rfl #[.agg #[.int .u64 t420, .int .u64 t421], .agg #[.int .u64 t423, .int .u64 t424]] (by rfl) rfl rfl (by (try simp only [List.map_toArray, List.map_cons, List.map_nil]); first | done | rfl) ?_
         with_reducible refine (tnum_Xor.calls t420 t421 t423 t424 t449 t450 _ A76.out).mono ?_
         rintro e w92 ⟨rfl, hb⟩
         refine ⟨_, rfl, ?_⟩
         have n0_ := am (blk_below BK417.out hb)
         have n1_ := am (blk_below BK418.out hb)
         have n2_ := am (blk_below BK425.out hb)
         have n3_ := am (blk_below BK426.out hb)
         have n4_ := am (below_step (by repeat (first | exact HB.out | refine below_set ?_ GE417.out | refine below_set ?_ GE418.out | refine below_set ?_ GE425.out | refine below_set ?_ GE426.out)) hb)
         clear BK417
         clear BK418
         clear BK425
         clear BK426
         clear HB
         have BK417 := n0_
         have BK418 := n1_
         have BK425 := n2_
         have BK426 := n3_
         have HB := n4_
         clear n0_ n1_ n2_ n3_ n4_
         (try clear hb)
         (try clear hb2)
         (try clear hk)
         (try clear hi)
         refine hK.out _ _ ⟨(blk_cell BK425.out 0).trans rfl, (blk_cell BK425.out 1).trans rfl, (blk_cell BK426.out 0).trans rfl, (blk_cell BK426.out 1).trans rfl, (blk_cell BK417.out 0).trans rfl, (blk_cell BK417.out 1).trans rfl, (blk_cell BK418.out 0).trans rfl, (blk_cell BK418.out 1).trans rfl⟩ (fun hHeld => ?_)
         clear hK K
         refine norm_ (a' := ?_) ?_ ?_
         rotate_left
         ·show Act.put _ (some 95) _ = _
          simp only [Act.put, q1, q2, q3, i64_w, i32_w]
          rfl
         refine one_ (i := 44) (N := some 98) (ar 48 35184372088831) rfl rfl (one_of HT_.out (by kernel_rfl)) (by decide) (fun K hK => ?_)
         refine goes_ Try.func36 (by kernel_rfl) rfl #[.agg #[.int .u64 t413, .int .u64 t414], .agg #[.int .u64 t415, .int .u64 t416]] (by rfl) rfl rfl (by (try simp only [List.map_toArray, List.map_cons, List.map_nil]); first | done | rfl) ?_
         with_reducible refine (tnum_Xor.calls t413 t414 t415 t416 t451 t452 _ A77.out).mono ?_
         rintro e w93 ⟨rfl, hb⟩
         refine ⟨_, rfl, ?_⟩
         have n0_ := am (blk_below BK417.out hb)
         have n1_ := am (blk_below BK418.out hb)
         have n2_ := am (blk_below BK425.out hb)
         have n3_ := am (blk_below BK426.out hb)
         have n4_ := am (below_step (by repeat (first | exact HB.out | refine below_set ?_ GE417.out | refine below_set ?_ GE418.out | refine below_set ?_ GE425.out | refine below_set ?_ GE426.out)) hb)
         clear BK417
         clear BK418
         clear BK425
         clear BK426
         clear HB
         have BK417 := n0_
         have BK418 := n1_
         have BK425 := n2_
         have BK426 := n3_
         have HB := n4_
         clear n0_ n1_ n2_ n3_ n4_
         (try clear hb)
         (try clear hb2)
         (try clear hk)
         (try clear hi)
         refine hK.out _ _ ⟨(blk_cell BK425.out 0).trans rfl, (blk_cell BK425.out 1).trans rfl, (blk_cell BK426.out 0).trans rfl, (blk_cell BK426.out 1).trans rfl, (blk_cell BK417.out 0).trans rfl, (blk_cell BK417.out 1).trans rfl, (blk_cell BK418.out 0).trans rfl, (blk_cell BK418.out 1).trans rfl⟩ (fun hHeld => ?_)
         clear hK K
         refine norm_ (a' := ?_) ?_ ?_
         rotate_left
         ·show Act.put _ (some 98) _ = _
          simp only [Act.put, q1, q2, q3, i64_w, i32_w]
          rfl
         refine one_ (i := 45) (N := some 99) (ar 48 70368744177663) rfl rfl (one_of HT_.out (by kernel_rfl)) (by decide) (fun K hK => ?_)
         refine goes_ Try.func15 (by kernel_rfl) rfl #[.agg #[.int .u64 t449, .int .u64 t450], .agg #[.int .u64 t451, .int .u64 t452]] (by rfl) rfl rfl (by (try simp only [List.map_toArray, List.map_cons, List.map_nil]); first | done | rfl) ?_
         with_reducible refine (tnum_In.calls t449 t450 t451 t452 t453 _ A78.out).mono ?_
         rintro e w94 ⟨rfl, hb⟩
         refine ⟨_, rfl, ?_⟩
         have n0_ := am (blk_below BK417.out hb)
         have n1_ := am (blk_below BK418.out hb)
         have n2_ := am (blk_below BK425.out hb)
         have n3_ := am (blk_below BK426.out hb)
         have n4_ := am (below_step (by repeat (first | exact HB.out | refine below_set ?_ GE417.out | refine below_set ?_ GE418.out | refine below_set ?_ GE425.out | refine below_set ?_ GE426.out)) hb)
         clear BK417
         clear BK418
         clear BK425
         clear BK426
         clear HB
         have BK417 := n0_
         have BK418 := n1_
         have BK425 := n2_
         have BK426 := n3_
         have HB := n4_
         clear n0_ n1_ n2_ n3_ n4_
         (try clear hb)
         (try clear hb2)
         (try clear hk)
         (try clear hi)
         refine hK.out _ _ ⟨(blk_cell BK425.out 0).trans rfl, (blk_cell BK425.out 1).trans rfl, (blk_cell BK426.out 0).trans rfl, (blk_cell BK426.out 1).trans rfl, (blk_cell BK417.out 0).trans rfl, (blk_cell BK417.out 1).trans rfl, (blk_cell BK418.out 0).trans rfl, (blk_cell BK418.out 1).trans rfl⟩ (fun hHeld => ?_)
         clear hK K
         refine norm_ (a' := ?_) ?_ ?_
         rotate_left
         ·show Act.put _ (some 99) _ = _
          simp only [Act.put, q1, q2, q3, i64_w, i32_w]
          rfl
         refine pure_ (i := 46) (N := some 100) (v := ?_) (a' := ?_) (ar 48 140737488355327) rfl rfl (any_of HT_.out (by kernel_rfl)) (fun _ _ _ h => h) (Or.inl ⟨by rfl, ?_⟩) ?_ ?_
         rotate_left
         ·intro w'
          go_simp
          with_reducible rfl
         rotate_left
         ·simp only [Act.put, q1, q2, q3, i64_w, i32_w]
          rfl
         refine pure_ (i := 47) (N := some 101) (v := ?_) (a' := ?_) (ar 48 281474976710655) rfl rfl (any_of HT_.out (by kernel_rfl)) (fun _ _ _ h => h) (Or.inl ⟨by rfl, ?_⟩) ?_ ?_
         rotate_left
         ·intro w'
          go_simp
          with_reducible rfl
         rotate_left
         ·simp only [Act.put, q1, q2, q3, i64_w, i32_w]
          rfl
         refine done_ (done_of HT_.out (by kernel_rfl)) ?_
         try go_wp2
         go_meet
         case rel => exact ⟨_, (!t453), (by first | rfl | (simp; done) | (simp [*]; done)), H', ⟨by have := HJ13.out; first | omega | exact Nat.le_refl _⟩, ⟨by (with_reducible repeat (first | refine blk_drewN ?_ _ | refine blk_drew ?_ | refine blk_alloc ?_ _)); exact BK417.out⟩, ⟨by (with_reducible repeat (first | refine blk_drewN ?_ _ | refine blk_drew ?_ | refine blk_alloc ?_ _)); exact BK418.out⟩, ⟨by (with_reducible repeat (first | refine blk_drewN ?_ _ | refine blk_drew ?_ | refine blk_alloc ?_ _)); exact BK425.out⟩, ⟨by (with_reducible repeat (first | refine blk_drewN ?_ _ | refine blk_drew ?_ | refine blk_alloc ?_ _)); exact BK426.out⟩, ⟨by repeat (first | (with_reducible first | exact HB.out | apply below_alloc | apply pw_below_drewN | apply below_drew1 | refine below_set ?_ GE417.out | refine below_set ?_ GE418.out | refine below_set ?_ GE425.out | refine below_set ?_ GE426.out) | exact HB.out)⟩⟩
        ·replace c75 := Bool.eq_false_iff.mpr c75
         subst c75
         have H1 : (wardenlaw03_TnumOrder.j1 kj13 a0 a2 (IntKind.u64.wrap (a6)) true t413 t414 t420 t421 t423 t424) = some r := by rw [if_neg (show ¬ (false = true) by decide)] at H; exact H
         clear H
         have H := H1
         clear H1
         exact absurd (H.trans (congrArg some hr_.out)) (wardenlaw03_TnumOrder.j1_no4 _ _ _ _ _ _ _ _ _ _)
       ·replace c71 := Bool.eq_false_iff.mpr c71
        subst c71
        have H1 : (wardenlaw03_TnumOrder.j1 kj13 a0 a2 (IntKind.u64.wrap (a6)) true t413 t414 t420 t421 t423 t424) = some r := by rw [if_neg (show ¬ (false = true) by decide)] at H; exact H
        clear H
        have H := H1
        clear H1
        exact absurd (H.trans (congrArg some hr_.out)) (wardenlaw03_TnumOrder.j1_no4 _ _ _ _ _ _ _ _ _ _)
      ·replace c67 := Bool.eq_false_iff.mpr c67
       subst c67
       have H1 : (wardenlaw03_TnumOrder.j1 kj13 a0 a2 (IntKind.u64.wrap (a6)) true t413 t414 t420 t421 t423 t424) = some r := by rw [if_neg (show ¬ (false = true) by decide)] at H; exact H
       clear H
       have H := H1
       clear H1
       exact absurd (H.trans (congrArg some hr_.out)) (wardenlaw03_TnumOrder.j1_no4 _ _ _ _ _ _ _ _ _ _)
     ·replace c63 := Bool.eq_false_iff.mpr c63
      subst c63
      have H1 : (wardenlaw03_TnumOrder.j1 kj13 a0 a2 (IntKind.u64.wrap (a6)) true t413 t414 t420 t421 t423 t424) = some r := by rw [if_neg (show ¬ (false = true) by decide)] at H; exact H
      clear H
      have H := H1
      clear H1
      exact absurd (H.trans (congrArg some hr_.out)) (wardenlaw03_TnumOrder.j1_no4 _ _ _ _ _ _ _ _ _ _)
    case rest =>
     clear HC59
     try clear c1
     try clear c2
     try clear p2
     try clear c3
     try clear c6
     try clear c15
     try clear c29
     try clear c31
     try clear c63
     obtain ⟨kq, x101_58, rfl, HA, HJ58, BK417, BK418, BK425, BK426, HB⟩ := hcut
     cases kq with
     | zero => exact absurd HA.out (by simp [wardenlaw03_TnumOrder.j1])
     | succ kj58 =>
      have H := HA.out
      clear HA
      simp only [wardenlaw03_TnumOrder.j1] at H
      by_cases c129 : x101_58 = true
      ·subst c129
       have H1 : (some false) = some r := by rw [if_pos rfl] at H; exact H
       clear H
       have H := H1
       clear H1
       obtain rfl := Option.some.inj H
       go_wp2
       go_ret
       exact ⟨by first | rfl | (simp [errW_none, errW_some] <;> rfl) | (simp [*, errW_none, errW_some] <;> rfl), by repeat (first | (with_reducible first | exact HB.out | apply below_alloc | apply pw_below_drewN | apply below_drew1 | refine below_set ?_ GE417.out | refine below_set ?_ GE418.out | refine below_set ?_ GE425.out | refine below_set ?_ GE426.out) | exact HB.out)⟩
      ·replace c129 := Bool.eq_false_iff.mpr c129
       subst c129
       have H1 : ((tnum_Shl.f t420 t421 (IntKind.u64.wrap (a6))).bind fun bt454 => ((tnum_Shl.f t413 t414 (IntKind.u64.wrap (a6))).bind fun bt456 => ((tnum_In.f bt454.1 bt454.2 bt456.1 bt456.2).bind fun t458 => (if t458 = true then ((tnum_Sar.f t420 t421 (IntKind.u64.wrap (a6))).bind fun bt459 => ((tnum_Sar.f t413 t414 (IntKind.u64.wrap (a6))).bind fun bt461 => ((tnum_In.f bt459.1 bt459.2 bt461.1 bt461.2).bind fun t463 => (if t463 = true then ((tnum_Join.f t420 t421 t423 t424).bind fun bt464 => ((tnum_In.f t420 t421 bt464.1 bt464.2).bind fun t466 => (wardenlaw03_TnumOrder.j2 kj58 a0 a2 (!t466)))) else (wardenlaw03_TnumOrder.j2 kj58 a0 a2 true))))) else (wardenlaw03_TnumOrder.j2 kj58 a0 a2 true))))) = some r := by rw [if_neg (show ¬ (false = true) by decide)] at H; exact H
       clear H
       have H := H1
       clear H1
       have HC130 := am H
       clear H
       go_upto_region 8 with (fail)
       go_cut [127] (fun v127 wc => ∃ (kq : Nat) (x127_129 : Bool), v127 = .bool x127_129 ∧ Aside0 (wardenlaw03_TnumOrder.j2 kq a0 a2 x127_129 = some r) ∧ Aside0 (kq ≤ kj58) ∧ Aside0 (wc.heap[gb417]? = some (.cells #[.int .u64 t413, .int .u64 t414] 24 (0, 0))) ∧ Aside0 (wc.heap[gb418]? = some (.cells #[.int .u64 t415, .int .u64 t416] 24 (0, 0))) ∧ Aside0 (wc.heap[gb425]? = some (.cells #[.int .u64 t420, .int .u64 t421] 24 (0, 0))) ∧ Aside0 (wc.heap[gb426]? = some (.cells #[.int .u64 t423, .int .u64 t424] 24 (0, 0))) ∧ Aside0 (Below w.heap.size w wc))
       case first =>
        have H := HC130.out
        clear HC130
        replace H := Option.bind_eq_some_iff.mp H
        obtain ⟨⟨t454, t455⟩, A1310, H⟩ := H
        try dsimp only at H
        have A131 := am A1310
        clear A1310
        replace H := Option.bind_eq_some_iff.mp H
        obtain ⟨⟨t456, t457⟩, A1320, H⟩ := H
        try dsimp only at H
        have A132 := am A1320
        clear A1320
        replace H := Option.bind_eq_some_iff.mp H
        obtain ⟨t458, A1330, H⟩ := H
        try dsimp only at H
        have A133 := am A1330
        clear A1330
        by_cases c134 : t458 = true
        ·subst c134
         have H1 : ((tnum_Sar.f t420 t421 (IntKind.u64.wrap (a6))).bind fun bt459 => ((tnum_Sar.f t413 t414 (IntKind.u64.wrap (a6))).bind fun bt461 => ((tnum_In.f bt459.1 bt459.2 bt461.1 bt461.2).bind fun t463 => (if t463 = true then ((tnum_Join.f t420 t421 t423 t424).bind fun bt464 => ((tnum_In.f t420 t421 bt464.1 bt464.2).bind fun t466 => (wardenlaw03_TnumOrder.j2 kj58 a0 a2 (!t466)))) else (wardenlaw03_TnumOrder.j2 kj58 a0 a2 true))))) = some r := by rw [if_pos rfl] at H; exact H
         clear H
         have H := H1
         clear H1
         replace H := Option.bind_eq_some_iff.mp H
         obtain ⟨⟨t459, t460⟩, A1350, H⟩ := H
         try dsimp only at H
         have A135 := am A1350
         clear A1350
         replace H := Option.bind_eq_some_iff.mp H
         obtain ⟨⟨t461, t462⟩, A1360, H⟩ := H
         try dsimp only at H
         have A136 := am A1360
         clear A1360
         replace H := Option.bind_eq_some_iff.mp H
         obtain ⟨t463, A1370, H⟩ := H
         try dsimp only at H
         have A137 := am A1370
         clear A1370
         by_cases c138 : t463 = true
         ·subst c138
          have H1 : ((tnum_Join.f t420 t421 t423 t424).bind fun bt464 => ((tnum_In.f t420 t421 bt464.1 bt464.2).bind fun t466 => (wardenlaw03_TnumOrder.j2 kj58 a0 a2 (!t466)))) = some r := by rw [if_pos rfl] at H; exact H
          clear H
          have H := H1
          clear H1
          replace H := Option.bind_eq_some_iff.mp H
          obtain ⟨⟨t464, t465⟩, A1390, H⟩ := H
          try dsimp only at H
          have A139 := am A1390
          clear A1390
          replace H := Option.bind_eq_some_iff.mp H
          obtain ⟨t466, A1400, H⟩ := H
          try dsimp only at H
          have A140 := am A1400
          clear A1400
          have H' := am H
          clear H
          try go_wp2
          have n0_ := am (blk_drew BK417.out)
          have n1_ := am (blk_drew BK418.out)
          have n2_ := am (blk_drew BK425.out)
          have n3_ := am (blk_drew BK426.out)
          have n4_ := am (below_drew1 HB.out)
          clear BK417
          clear BK418
          clear BK425
          clear BK426
          clear HB
          have BK417 := n0_
          have BK418 := n1_
          have BK425 := n2_
          have BK426 := n3_
          have HB := n4_
          clear n0_ n1_ n2_ n3_ n4_
          refine start_ (n := 26) (S := fun w' => w'.cell? ⟨gb425, 0, none⟩ = some (.int .u64 t420) ∧ w'.cell? ⟨gb425, 1, none⟩ = some (.int .u64 t421) ∧ w'.cell? ⟨gb417, 0, none⟩ = some (.int .u64 t413) ∧ w'.cell? ⟨gb417, 1, none⟩ = some (.int .u64 t414) ∧ w'.cell? ⟨gb426, 0, none⟩ = some (.int .u64 t423) ∧ w'.cell? ⟨gb426, 1, none⟩ = some (.int .u64 t424)) (ds := []) (ar 26 0) (by kernel_rfl) rfl rfl ⟨(blk_cell BK425.out 0).trans rfl, (blk_cell BK425.out 1).trans rfl, (blk_cell BK417.out 0).trans rfl, (blk_cell BK417.out 1).trans rfl, (blk_cell BK426.out 0).trans rfl, (blk_cell BK426.out 1).trans rfl⟩ (fun hHeld => ?_); refine with_tabW wardenlaw03_TnumOrder.tab8 wardenlaw03_TnumOrder.bits8 (fun HT_ HW_ => ?_)
          generalize wc.drew = w141 at BK417 BK418 BK425 BK426 HB hHeld ⊢
          refine pure_ (i := 1) (N := some 103) (v := ?_) (a' := ?_) (ar 26 2) rfl rfl (any_of HT_.out (by kernel_rfl)) (fun _ _ _ h => h) (Or.inl ⟨by rfl, ?_⟩) ?_ ?_
          rotate_left
          ·intro w'
           go_simp
           with_reducible rfl
          rotate_left
          ·simp only [Act.put, q1, q2, q3, i64_w, i32_w]
           rfl
          refine pure_ (i := 4) (N := some 106) (v := ?_) (a' := ?_) (ar 26 18) rfl rfl (any_of HT_.out (by kernel_rfl)) (fun _ _ _ h => h) (Or.inl ⟨by rfl, ?_⟩) ?_ ?_
          rotate_left
          ·intro w'
           go_simp
           with_reducible rfl
          rotate_left
          ·simp only [Act.put, q1, q2, q3, i64_w, i32_w]
           rfl
          refine take_ (i := 0) (N := some 102) (v := ?_) (a' := ?_) (ar 26 19) rfl rfl (take_ofW HT_.out HW_.out (by kernel_rfl)) (fun _ _ _ h => h) (Or.inl ⟨by rfl, ?_⟩) hHeld ?_ ?_
          rotate_left
          ·rintro w' ⟨s0, s1, s2, s3, s4, s5⟩
           go_simp
           with_reducible rfl
          rotate_left
          ·simp only [Act.put, q1, q2, q3, i64_w, i32_w]
           rfl
          refine take_ (i := 3) (N := some 105) (v := ?_) (a' := ?_) (ar 26 27) rfl rfl (take_ofW HT_.out HW_.out (by kernel_rfl)) (fun _ _ _ h => h) (Or.inl ⟨by rfl, ?_⟩) hHeld ?_ ?_
          rotate_left
          ·rintro w' ⟨s0, s1, s2, s3, s4, s5⟩
           go_simp
           with_reducible rfl
          rotate_left
          ·simp only [Act.put, q1, q2, q3, i64_w, i32_w]
           rfl
          refine one_ (i := 2) (N := some 104) (ar 26 31) rfl rfl (one_of HT_.out (by kernel_rfl)) (by decide) (fun K hK => ?_)
          refine goes_ Try.func26 (by kernel_rfl) rfl #[.agg #[.int .u64 t420, .int .u64 t421], .int .u64 (IntKind.u64.wrap (a6))] (by rfl) rfl rfl (by (try simp only [List.map_toArray, List.map_cons, List.map_nil]); first | done | rfl) ?_
          with_reducible refine (tnum_Shl.calls t420 t421 (IntKind.u64.wrap (a6)) t454 t455 _ A131.out).mono ?_
          rintro e w142 ⟨rfl, hb⟩
          refine ⟨_, rfl, ?_⟩
          have n0_ := am (blk_below BK417.out hb)
          have n1_ := am (blk_below BK418.out hb)
          have n2_ := am (blk_below BK425.out hb)
          have n3_ := am (blk_below BK426.out hb)
          have n4_ := am (below_step (by repeat (first | exact HB.out | refine below_set ?_ GE417.out | refine below_set ?_ GE418.out | refine below_set ?_ GE425.out | refine below_set ?_ GE426.out)) hb)
          clear BK417
          clear BK418
          clear BK425
          clear BK426
          clear HB
          have BK417 := n0_
          have BK418 := n1_
          have BK425 := n2_
          have BK426 := n3_
          have HB := n4_
          clear n0_ n1_ n2_ n3_ n4_
          (try clear hb)
          (try clear hb2)
          (try clear hk)
          (try clear hi)
          refine hK.out _ _ ⟨(blk_cell BK425.out 0).trans rfl, (blk_cell BK425.out 1).trans rfl, (blk_cell BK417.out 0).trans rfl, (blk_cell BK417.out 1).trans rfl, (blk_cell BK426.out 0).trans rfl, (blk_cell BK426.out 1).trans rfl⟩ (fun hHeld => ?_)
          clear hK K
          refine norm_ (a' := ?_) ?_ ?_
          rotate_left
          ·show Act.put _ (some 104) _ = _
           simp only [Act.put, q1, q2, q3, i64_w, i32_w]
           rfl
          refine one_ (i := 5) (N := some 107) (ar 26 63) rfl rfl (one_of HT_.out (by kernel_rfl)) (by decide) (fun K hK => ?_)
          refine goes_ Try.func26 (by kernel_rfl) rfl #[.agg #[.int .u64 t413, .int .u64 t414], .int .u64 (IntKind.u64.wrap (a6))] (by rfl) rfl rfl (by (try simp only [List.map_toArray, List.map_cons, List.map_nil]); first | done | rfl) ?_
          with_reducible refine (tnum_Shl.calls t413 t414 (IntKind.u64.wrap (a6)) t456 t457 _ A132.out).mono ?_
          rintro e w143 ⟨rfl, hb⟩
          refine ⟨_, rfl, ?_⟩
          have n0_ := am (blk_below BK417.out hb)
          have n1_ := am (blk_below BK418.out hb)
          have n2_ := am (blk_below BK425.out hb)
          have n3_ := am (blk_below BK426.out hb)
          have n4_ := am (below_step (by repeat (first | exact HB.out | refine below_set ?_ GE417.out | refine below_set ?_ GE418.out | refine below_set ?_ GE425.out | refine below_set ?_ GE426.out)) hb)
          clear BK417
          clear BK418
          clear BK425
          clear BK426
          clear HB
          have BK417 := n0_
          have BK418 := n1_
          have BK425 := n2_
          have BK426 := n3_
          have HB := n4_
          clear n0_ n1_ n2_ n3_ n4_
          (try clear hb)
          (try clear hb2)
          (try clear hk)
          (try clear hi)
          refine hK.out _ _ ⟨(blk_cell BK425.out 0).trans rfl, (blk_cell BK425.out 1).trans rfl, (blk_cell BK417.out 0).trans rfl, (blk_cell BK417.out 1).trans rfl, (blk_cell BK426.out 0).trans rfl, (blk_cell BK426.out 1).trans rfl⟩ (fun hHeld => ?_)
          clear hK K
          refine norm_ (a' := ?_) ?_ ?_
          rotate_left
          ·show Act.put _ (some 107) _ = _
           simp only [Act.put, q1, q2, q3, i64_w, i32_w]
           rfl
          refine one_ (i := 6) (N := some 108) (ar 26 127) rfl rfl (one_of HT_.out (by kernel_rfl)) (by decide) (fun K hK => ?_)
          refine goes_ Try.func15 (by kernel_rfl) rfl #[.agg #[.int .u64 t454, .int .u64 t455], .agg #[.int .u64 t456, .int .u64 t457]] (by rfl) rfl rfl (by (try simp only [List.map_toArray, List.map_cons, List.map_nil]); first | done | rfl) ?_
          with_reducible refine (tnum_In.calls t454 t455 t456 t457 true _ A133.out).mono ?_
          rintro e w144 ⟨rfl, hb⟩
          refine ⟨_, rfl, ?_⟩
          have n0_ := am (blk_below BK417.out hb)
          have n1_ := am (blk_below BK418.out hb)
          have n2_ := am (blk_below BK425.out hb)
          have n3_ := am (blk_below BK426.out hb)
          have n4_ := am (below_step (by repeat (first | exact HB.out | refine below_set ?_ GE417.out | refine below_set ?_ GE418.out | refine below_set ?_ GE425.out | refine below_set ?_ GE426.out)) hb)
          clear BK417
          clear BK418
          clear BK425
          clear BK426
          clear HB
          have BK417 := n0_
          have BK418 := n1_
          have BK425 := n2_
          have BK426 := n3_
          have HB := n4_
          clear n0_ n1_ n2_ n3_ n4_
          (try clear hb)
          (try clear hb2)
          (try clear hk)
          (try clear hi)
          refine hK.out _ _ ⟨(blk_cell BK425.out 0).trans rfl, (blk_cell BK425.out 1).trans rfl, (blk_cell BK417.out 0).trans rfl, (blk_cell BK417.out 1).trans rfl, (blk_cell BK426.out 0).trans rfl, (blk_cell BK426.out 1).trans rfl⟩ (fun hHeld => ?_)
          clear hK K
          refine norm_ (a' := ?_) ?_ ?_
          rotate_left
          ·show Act.put _ (some 108) _ = _
           simp only [Act.put, q1, q2, q3, i64_w, i32_w]
           rfl
          refine pure_ (i := 7) (N := some 109) (v := ?_) (a' := ?_) (ar 26 255) rfl rfl (any_of HT_.out (by kernel_rfl)) (fun _ _ _ h => h) (Or.inl ⟨by rfl, ?_⟩) ?_ ?_
          rotate_left
          ·intro w'
           go_simp
           with_reducible rfl
          rotate_left
          ·simp only [Act.put, q1, q2, q3, i64_w, i32_w]
           rfl
          refine pure_ (i := 8) (N := some 110) (v := ?_) (a' := ?_) (ar 26 511) rfl rfl (any_of HT_.out (by kernel_rfl)) (fun _ _ _ h => h) (Or.inl ⟨by rfl, ?_⟩) ?_ ?_
          rotate_left
          ·intro w'
           go_simp
           with_reducible rfl
          rotate_left
          ·simp only [Act.put, q1, q2, q3, i64_w, i32_w]
           rfl
          refine pure_ (i := 10) (N := some 112) (v := ?_) (a' := ?_) (ar 26 1535) rfl rfl (any_of HT_.out (by kernel_rfl)) (fun _ _ _ h => h) (Or.inl ⟨by rfl, ?_⟩) ?_ ?_
          rotate_left
          ·intro w'
           go_simp
           with_reducible rfl
          rotate_left
          ·simp only [Act.put, q1, q2, q3, i64_w, i32_w]
           rfl
          refine pure_ (i := 13) (N := some 115) (v := ?_) (a' := ?_) (ar 26 9727) rfl rfl (any_of HT_.out (by kernel_rfl)) (fun _ _ _ h => h) (Or.inl ⟨by rfl, ?_⟩) ?_ ?_
          rotate_left
          ·intro w'
           go_simp
           with_reducible rfl
          rotate_left
          ·simp only [Act.put, q1, q2, q3, i64_w, i32_w]
           rfl
          refine take_ (i := 9) (N := some 111) (v := ?_) (a' := ?_) (ar 26 10239) rfl rfl (take_ofW HT_.out HW_.out (by kernel_rfl)) (fun _ _ _ h => h) (Or.inl ⟨by rfl, ?_⟩) hHeld ?_ ?_
          rotate_left
          ·rintro w' ⟨s0, s1, s2, s3, s4, s5⟩
           go_simp
           with_reducible rfl
          rotate_left
          ·simp only [Act.put, q1, q2, q3, i64_w, i32_w]
           rfl
          refine take_ (i := 12) (N := some 114) (v := ?_) (a' := ?_) (ar 26 14335) rfl rfl (take_ofW HT_.out HW_.out (by kernel_rfl)) (fun _ _ _ h => h) (Or.inl ⟨by rfl, ?_⟩) hHeld ?_ ?_
          rotate_left
          ·rintro w' ⟨s0, s1, s2, s3, s4, s5⟩
           go_simp
           with_reducible rfl
          rotate_left
          ·simp only [Act.put, q1, q2, q3, i64_w, i32_w]
           rfl
          refine one_ (i := 11) (N := some 113) (ar 26 16383) rfl rfl (one_of HT_.out (by kernel_rfl)) (by decide) (fun K hK => ?_)
          refine goes_ Try.func28 (by kernel_rfl) rfl #[.agg #[.int .u64 t420, .int .u64 t421], .int .u64 (IntKind.u64.wrap (a6))] (by rfl) rfl rfl (by (try simp only [List.map_toArray, List.map_cons, List.map_nil]); first | done | rfl) ?_
          with_reducible refine (tnum_Sar.calls t420 t421 (IntKind.u64.wrap (a6)) t459 t460 _ A135.out).mono ?_
          rintro e w145 ⟨rfl, hb⟩
          refine ⟨_, rfl, ?_⟩
          have n0_ := am (blk_below BK417.out hb)
          have n1_ := am (blk_below BK418.out hb)
          have n2_ := am (blk_below BK425.out hb)
          have n3_ := am (blk_below BK426.out hb)
          have n4_ := am (below_step (by repeat (first | exact HB.out | refine below_set ?_ GE417.out | refine below_set ?_ GE418.out | refine below_set ?_ GE425.out | refine below_set ?_ GE426.out)) hb)
          clear BK417
          clear BK418
          clear BK425
          clear BK426
          clear HB
          have BK417 := n0_
          have BK418 := n1_
          have BK425 := n2_
          have BK426 := n3_
          have HB := n4_
          clear n0_ n1_ n2_ n3_ n4_
          (try clear hb)
          (try clear hb2)
          (try clear hk)
          (try clear hi)
          refine hK.out _ _ ⟨(blk_cell BK425.out 0).trans rfl, (blk_cell BK425.out 1).trans rfl, (blk_cell BK417.out 0).trans rfl, (blk_cell BK417.out 1).trans rfl, (blk_cell BK426.out 0).trans rfl, (blk_cell BK426.out 1).trans rfl⟩ (fun hHeld => ?_)
          clear hK K
          refine norm_ (a' := ?_) ?_ ?_
          rotate_left
          ·show Act.put _ (some 113) _ = _
           simp only [Act.put, q1, q2, q3, i64_w, i32_w]
           rfl
          refine one_ (i := 14) (N := some 116) (ar 26 32767) rfl rfl (one_of HT_.out (by kernel_rfl)) (by decide) (fun K hK => ?_)
          refine goes_ Try.func28 (by kernel_rfl) rfl #[.agg #[.int .u64 t413, .int .u64 t414], .int .u64 (IntKind.u64.wrap (a6))] (by rfl) rfl rfl (by (try simp only [List.map_toArray, List.map_cons, List.map_nil]); first | done | rfl) ?_
          with_reducible refine (tnum_Sar.calls t413 t414 (IntKind.u64.wrap (a6)) t461 t462 _ A136.out).mono ?_
          rintro e w146 ⟨rfl, hb⟩
          refine ⟨_, rfl, ?_⟩
          have n0_ := am (blk_below BK417.out hb)
          have n1_ := am (blk_below BK418.out hb)
          have n2_ := am (blk_below BK425.out hb)
          have n3_ := am (blk_below BK426.out hb)
          have n4_ := am (below_step (by repeat (first | exact HB.out | refine below_set ?_ GE417.out | refine below_set ?_ GE418.out | refine below_set ?_ GE425.out | refine below_set ?_ GE426.out)) hb)
          clear BK417
          clear BK418
          clear BK425
          clear BK426
          clear HB
          have BK417 := n0_
          have BK418 := n1_
          have BK425 := n2_
          have BK426 := n3_
          have HB := n4_
          clear n0_ n1_ n2_ n3_ n4_
          (try clear hb)
          (try clear hb2)
          (try clear hk)
          (try clear hi)
          refine hK.out _ _ ⟨(blk_cell BK425.out 0).trans rfl, (blk_cell BK425.out 1).trans rfl, (blk_cell BK417.out 0).trans rfl, (blk_cell BK417.out 1).trans rfl, (blk_cell BK426.out 0).trans rfl, (blk_cell BK426.out 1).trans rfl⟩ (fun hHeld => ?_)
          clear hK K
          refine norm_ (a' := ?_) ?_ ?_
          rotate_left
          ·show Act.put _ (some 116) _ = _
           simp only [Act.put, q1, q2, q3, i64_w, i32_w]
           rfl
          refine one_ (i := 15) (N := some 117) (ar 26 65535) rfl rfl (one_of HT_.out (by kernel_rfl)) (by decide) (fun K hK => ?_)
          refine goes_ Try.func15 (by kernel_rfl) rfl #[.agg #[.int .u64 t459, .int .u64 t460], .agg #[.int .u64 t461, .int .u64 t462]] (by rfl) rfl rfl (by (try simp only [List.map_toArray, List.map_cons, List.map_nil]); first | done | rfl) ?_
          with_reducible refine (tnum_In.calls t459 t460 t461 t462 true _ A137.out).mono ?_
          rintro e w147 ⟨rfl, hb⟩
          refine ⟨_, rfl, ?_⟩
          have n0_ := am (blk_below BK417.out hb)
          have n1_ := am (blk_below BK418.out hb)
          have n2_ := am (blk_below BK425.out hb)
          have n3_ := am (blk_below BK426.out hb)
          have n4_ := am (below_step (by repeat (first | exact HB.out | refine below_set ?_ GE417.out | refine below_set ?_ GE418.out | refine below_set ?_ GE425.out | refine below_set ?_ GE426.out)) hb)
          clear BK417
          clear BK418
          clear BK425
          clear BK426
          clear HB
          have BK417 := n0_
          have BK418 := n1_
          have BK425 := n2_
          have BK426 := n3_
          have HB := n4_
          clear n0_ n1_ n2_ n3_ n4_
          (try clear hb)
          (try clear hb2)
          (try clear hk)
          (try clear hi)
          refine hK.out _ _ ⟨(blk_cell BK425.out 0).trans rfl, (blk_cell BK425.out 1).trans rfl, (blk_cell BK417.out 0).trans rfl, (blk_cell BK417.out 1).trans rfl, (blk_cell BK426.out 0).trans rfl, (blk_cell BK426.out 1).trans rfl⟩ (fun hHeld => ?_)
          clear hK K
          refine norm_ (a' := ?_) ?_ ?_
          rotate_left
          ·show Act.put _ (some 117) _ = _
           simp only [Act.put, q1, q2, q3, i64_w, i32_w]
           rfl
          refine pure_ (i := 16) (N := some 118) (v := ?_) (a' := ?_) (ar 26 131071) rfl rfl (any_of HT_.out (by kernel_rfl)) (fun _ _ _ h => h) (Or.inl ⟨by rfl, ?_⟩) ?_ ?_
          rotate_left
          ·intro w'
           go_simp
           with_reducible rfl
          rotate_left
          ·simp only [Act.put, q1, q2, q3, i64_w, i32_w]
           rfl
          refine pure_ (i := 17) (N := some 119) (v := ?_) (a' := ?_) (ar 26 262143) rfl rfl (any_of HT_.out (by kernel_rfl)) (fun _ _ _ h => h) (Or.inl ⟨by rfl, ?_⟩) ?_ ?_
          rotate_left
          ·intro w'
           go_simp
           with_reducible rfl
          rotate_left
          ·simp only [Act.put, q1, q2, q3, i64_w, i32_w]
           rfl
          refine pure_ (i := 18) (N := some 120) (v := ?_) (a' := ?_) (ar 26 524287) rfl rfl (any_of HT_.out (by kernel_rfl)) (fun _ _ _ h => h) (Or.inl ⟨by rfl, ?_⟩) ?_ ?_
          rotate_left
          ·intro w'
           go_simp
           with_reducible rfl
          rotate_left
          ·simp only [Act.put, q1, q2, q3, i64_w, i32_w]
           rfl
          refine take_ (i := 19) (N := some 121) (v := ?_) (a' := ?_) (ar 26 1048575) rfl rfl (take_ofW HT_.out HW_.out (by kernel_rfl)) (fun _ _ _ h => h) (Or.inl ⟨by rfl, ?_⟩) hHeld ?_ ?_
          rotate_left
          ·rintro w' ⟨s0, s1, s2, s3, s4, s5⟩
           go_simp
           with_reducible rfl
          rotate_left
          ·simp only [Act.put, q1, q2, q3, i64_w, i32_w]
           rfl
          refine take_ (i := 20) (N := some 122) (v := ?_) (a' := ?_) (ar 26 2097151) rfl rfl (take_ofW HT_.out HW_.out (by kernel_rfl)) (fun _ _ _ h => h) (Or.inl ⟨by rfl, ?_⟩) hHeld ?_ ?_
          rotate_left
          ·rintro w' ⟨s0, s1, s2, s3, s4, s5⟩
           go_simp
           with_reducible rfl
          rotate_left
          ·simp only [Act.put, q1, q2, q3, i64_w, i32_w]
           rfl
          refine take_ (i := 21) (N := some 123) (v := ?_) (a' := ?_) (ar 26 4194303) rfl rfl (take_ofW HT_.out HW_.out (by kernel_rfl)) (fun _ _ _ h => h) (Or.inl ⟨by rfl, ?_⟩) hHeld ?_ ?_
          rotate_left
          ·rintro w' ⟨s0, s1, s2, s3, s4, s5⟩
           go_simp
           with_reducible rfl
          rotate_left
          ·simp only [Act.put, q1, q2, q3, i64_w, i32_w]
           rfl
          refine one_ (i := 22) (N := some 124) (ar 26 8388607) rfl rfl (one_of HT_.out (by kernel_rfl)) (by decide) (fun K hK => ?_)
          refine goes_ Try.func20 (by kernel_rfl) rfl #[.agg #[.int .u64 t420, .int .u64 t421], .agg #[.int .u64 t423, .int .u64 t424]] (by rfl) rfl rfl (by (try simp only [List.map_toArray, List.map_cons, List.map_nil]); first | done | rfl) ?_
          with_reducible refine (tnum_Join.calls t420 t421 t423 t424 t464 t465 _ A139.out).mono ?_
          rintro e w148 ⟨rfl, hb⟩
          refine ⟨_, rfl, ?_⟩
          have n0_ := am (blk_below BK417.out hb)
          have n1_ := am (blk_below BK418.out hb)
          have n2_ := am (blk_below BK425.out hb)
          have n3_ := am (blk_below BK426.out hb)
          have n4_ := am (below_step (by repeat (first | exact HB.out | refine below_set ?_ GE417.out | refine below_set ?_ GE418.out | refine below_set ?_ GE425.out | refine below_set ?_ GE426.out)) hb)
          clear BK417
          clear BK418
          clear BK425
          clear BK426
          clear HB
          have BK417 := n0_
          have BK418 := n1_
          have BK425 := n2_
          have BK426 := n3_
          have HB := n4_
          clear n0_ n1_ n2_ n3_ n4_
          (try clear hb)
          (try clear hb2)
          (try clear hk)
          (try clear hi)
          refine hK.out _ _ ⟨(blk_cell BK425.out 0).trans rfl, (blk_cell BK425.out 1).trans rfl, (blk_cell BK417.out 0).trans rfl, (blk_cell BK417.out 1).trans rfl, (blk_cell BK426.out 0).trans rfl, (blk_cell BK426.out 1).trans rfl⟩ (fun hHeld => ?_)
          clear hK K
          refine norm_ (a' := ?_) ?_ ?_
          rotate_left
          ·show Act.put _ (some 124) _ = _
           simp only [Act.put, q1, q2, q3, i64_w, i32_w]
           rfl
          refine one_ (i := 23) (N := some 125) (ar 26 16777215) rfl rfl (one_of HT_.out (by kernel_rfl)) (by decide) (fun K hK => ?_)
          refine goes_ Try.func15 (by kernel_rfl) rfl #[.agg #[.int .u64 t420, .int .u64 t421], .agg #[.int .u64 t464, .int .u64 t465]] (by rfl) rfl rfl (by (try simp only [List.map_toArray, List.map_cons, List.map_nil]); first | done | rfl) ?_
          with_reducible refine (tnum_In.calls t420 t421 t464 t465 t466 _ A140.out).mono ?_
          rintro e w149 ⟨rfl, hb⟩
          refine ⟨_, rfl, ?_⟩
          have n0_ := am (blk_below BK417.out hb)
          have n1_ := am (blk_below BK418.out hb)
          have n2_ := am (blk_below BK425.out hb)
          have n3_ := am (blk_below BK426.out hb)
          have n4_ := am (below_step (by repeat (first | exact HB.out | refine below_set ?_ GE417.out | refine below_set ?_ GE418.out | refine below_set ?_ GE425.out | refine below_set ?_ GE426.out)) hb)
          clear BK417
          clear BK418
          clear BK425
          clear BK426
          clear HB
          have BK417 := n0_
          have BK418 := n1_
          have BK425 := n2_
          have BK426 := n3_
          have HB := n4_
          clear n0_ n1_ n2_ n3_ n4_
          (try clear hb)
          (try clear hb2)
          (try clear hk)
          (try clear hi)
          refine hK.out _ _ ⟨(blk_cell BK425.out 0).trans rfl, (blk_cell BK425.out 1).trans rfl, (blk_cell BK417.out 0).trans rfl, (blk_cell BK417.out 1).trans rfl, (blk_cell BK426.out 0).trans rfl, (blk_cell BK426.out 1).trans rfl⟩ (fun hHeld => ?_)
          clear hK K
          refine norm_ (a' := ?_) ?_ ?_
          rotate_left
          ·show Act.put _ (some 125) _ = _
           simp only [Act.put, q1, q2, q3, i64_w, i32_w]
           rfl
          refine pure_ (i := 24) (N := some 126) (v := ?_) (a' := ?_) (ar 26 33554431) rfl rfl (any_of HT_.out (by kernel_rfl)) (fun _ _ _ h => h) (Or.inl ⟨by rfl, ?_⟩) ?_ ?_
          rotate_left
          ·intro w'
           go_simp
           with_reducible rfl
          rotate_left
          ·simp only [Act.put, q1, q2, q3, i64_w, i32_w]
           rfl
          refine pure_ (i := 25) (N := some 127) (v := ?_) (a' := ?_) (ar 26 67108863) rfl rfl (any_of HT_.out (by kernel_rfl)) (fun _ _ _ h => h) (Or.inl ⟨by rfl, ?_⟩) ?_ ?_
          rotate_left
          ·intro w'
           go_simp
           with_reducible rfl
          rotate_left
          ·simp only [Act.put, q1, q2, q3, i64_w, i32_w]
           rfl
          refine done_ (done_of HT_.out (by kernel_rfl)) ?_
          try go_wp2
          go_meet
          case rel => exact ⟨_, (!t466), (by first | rfl | (simp; done) | (simp [*]; done)), H', ⟨by have := HJ13.out; have := HJ58.out; first | omega | exact Nat.le_refl _⟩, ⟨by (with_reducible repeat (first | refine blk_drewN ?_ _ | refine blk_drew ?_ | refine blk_alloc ?_ _)); exact BK417.out⟩, ⟨by (with_reducible repeat (first | refine blk_drewN ?_ _ | refine blk_drew ?_ | refine blk_alloc ?_ _)); exact BK418.out⟩, ⟨by (with_reducible repeat (first | refine blk_drewN ?_ _ | refine blk_drew ?_ | refine blk_alloc ?_ _)); exact BK425.out⟩, ⟨by (with_reducible repeat (first | refine blk_drewN ?_ _ | refine blk_drew ?_ | refine blk_alloc ?_ _)); exact BK426.out⟩, ⟨by repeat (first | (with_reducible first | exact HB.out | apply below_alloc | apply pw_below_drewN | apply below_drew1 | refine below_set ?_ GE417.out | refine below_set ?_ GE418.out | refine below_set ?_ GE425.out | refine below_set ?_ GE426.out) | exact HB.out)⟩⟩
         ·replace c138 := Bool.eq_false_iff.mpr c138
          subst c138
          have H1 : (wardenlaw03_TnumOrder.j2 kj58 a0 a2 true) = some r := by rw [if_neg (show ¬ (false = true) by decide)] at H; exact H
          clear H
          have H := H1
          clear H1
          exact absurd (H.trans (congrArg some hr_.out)) (wardenlaw03_TnumOrder.j2_no3 _ _ _)
        ·replace c134 := Bool.eq_false_iff.mpr c134
         subst c134
         have H1 : (wardenlaw03_TnumOrder.j2 kj58 a0 a2 true) = some r := by rw [if_neg (show ¬ (false = true) by decide)] at H; exact H
         clear H
         have H := H1
         clear H1
         exact absurd (H.trans (congrArg some hr_.out)) (wardenlaw03_TnumOrder.j2_no3 _ _ _)
       case rest =>
        clear HC130
        try clear c1
        try clear c2
        try clear p2
        try clear c13
        try clear c15
        try clear c26
        try clear c28
        try clear c134
        obtain ⟨kq, x127_129, rfl, HA, HJ129, BK417, BK418, BK425, BK426, HB⟩ := hcut
        cases kq with
        | zero => exact absurd HA.out (by simp [wardenlaw03_TnumOrder.j2])
        | succ kj129 =>
         have H := HA.out
         clear HA
         simp only [wardenlaw03_TnumOrder.j2] at H
         by_cases c161 : x127_129 = true
         ·subst c161
          have H1 : (some false) = some r := by rw [if_pos rfl] at H; exact H
          clear H
          have H := H1
          clear H1
          obtain rfl := Option.some.inj H
          go_wp2
          go_ret
          exact ⟨by first | rfl | (simp [errW_none, errW_some] <;> rfl) | (simp [*, errW_none, errW_some] <;> rfl), by repeat (first | (with_reducible first | exact HB.out | apply below_alloc | apply pw_below_drewN | apply below_drew1 | refine below_set ?_ GE417.out | refine below_set ?_ GE418.out | refine below_set ?_ GE425.out | refine below_set ?_ GE426.out) | exact HB.out)⟩
         ·replace c161 := Bool.eq_false_iff.mpr c161
          subst c161
          have H1 : ((tnum_Const.f a0).bind fun bt467 => ((tnum_Const.f a2).bind fun bt469 => ((tnum_Mul.f kj129 bt467.1 bt467.2 bt469.1 bt469.2).bind fun bt473 => ((tnum_Const.f (IntKind.u64.wrap (a0 * a2))).bind fun bt475 => (if (bt473.1 == bt475.1 && (bt473.2 == bt475.2)) = true then ((tnum_Sub.f bt467.1 bt467.2 bt469.1 bt469.2).bind fun bt477 => ((tnum_Const.f (IntKind.u64.wrap (a0 - a2))).bind fun bt479 => (if (bt477.1 == bt479.1 && (bt477.2 == bt479.2)) = true then ((tnum_Add.f bt467.1 bt467.2 bt469.1 bt469.2).bind fun bt481 => ((tnum_Const.f (IntKind.u64.wrap (a0 + a2))).bind fun bt483 => (if (bt481.1 == bt483.1 && (bt481.2 == bt483.2)) = true then ((wardenlaw03_works.f kj129).bind fun t485 => (some t485)) else (some false)))) else (some false)))) else (some false)))))) = some r := by rw [if_neg (show ¬ (false = true) by decide)] at H; exact H
          clear H
          have H := H1
          clear H1
          replace H := Option.bind_eq_some_iff.mp H
          obtain ⟨⟨t467, t468⟩, A1620, H⟩ := H
          try dsimp only at H
          have A162 := am A1620
          clear A1620
          replace H := Option.bind_eq_some_iff.mp H
          obtain ⟨⟨t469, t470⟩, A1630, H⟩ := H
          try dsimp only at H
          have A163 := am A1630
          clear A1630
          replace H := Option.bind_eq_some_iff.mp H
          obtain ⟨⟨t473, t474⟩, A1640, H⟩ := H
          try dsimp only at H
          have A164 := am A1640
          clear A1640
          replace H := Option.bind_eq_some_iff.mp H
          obtain ⟨⟨t475, t476⟩, A1650, H⟩ := H
          try dsimp only at H
          have A165 := am A1650
          clear A1650
          by_cases c166 : (t473 == t475 && (t474 == t476)) = true
          ·rw [if_pos c166] at H
           have c166b0 : (t473 == t475 && (t474 == t476)) = true := c166
           (try (have c166b1 : decide (t473 = t475 && (t474 == t476)) = true := by simpa using c166))
           (try (have c166b2 : (t473 == t475 && (t474 == t476)) = true := by simpa using c166))
           clear c166
           replace H := Option.bind_eq_some_iff.mp H
           obtain ⟨⟨t477, t478⟩, A1670, H⟩ := H
           try dsimp only at H
           have A167 := am A1670
           clear A1670
           replace H := Option.bind_eq_some_iff.mp H
           obtain ⟨⟨t479, t480⟩, A1680, H⟩ := H
           try dsimp only at H
           have A168 := am A1680
           clear A1680
           by_cases c169 : (t477 == t479 && (t478 == t480)) = true
           ·rw [if_pos c169] at H
            have c169b0 : (t477 == t479 && (t478 == t480)) = true := c169
            (try (have c169b1 : decide (t477 = t479 && (t478 == t480)) = true := by simpa using c169))
            (try (have c169b2 : (t477 == t479 && (t478 == t480)) = true := by simpa using c169))
            clear c169
            replace H := Option.bind_eq_some_iff.mp H
            obtain ⟨⟨t481, t482⟩, A1700, H⟩ := H
            try dsimp only at H
            have A170 := am A1700
            clear A1700
            replace H := Option.bind_eq_some_iff.mp H
            obtain ⟨⟨t483, t484⟩, A1710, H⟩ := H
            try dsimp only at H
            have A171 := am A1710
            clear A1710
            by_cases c172 : (t481 == t483 && (t482 == t484)) = true
            ·rw [if_pos c172] at H
             have c172b0 : (t481 == t483 && (t482 == t484)) = true := c172
             (try (have c172b1 : decide (t481 = t483 && (t482 == t484)) = true := by simpa using c172))
             (try (have c172b2 : (t481 == t483 && (t482 == t484)) = true := by simpa using c172))
             clear c172
             replace H := Option.bind_eq_some_iff.mp H
             obtain ⟨t485, A1730, H⟩ := H
             try dsimp only at H
             have A173 := am A1730
             clear A1730
             obtain rfl := Option.some.inj H
             go_wp2_with (first | ((with_reducible refine gate_callee (f := 17) rfl ?_); refine goesL_ (some 129) rfl rfl Try.func17 (by kernel_rfl) rfl #[.int .u64 a0] rfl (by (try simp only [List.map_toArray, List.map_cons, List.map_nil]); first | done | rfl) ?_; (with_reducible refine (tnum_Const.calls a0 t467 t468 _ A162.out).mono ?_); rintro e w174 ⟨rfl, hb⟩; refine ⟨_, rfl, ?_⟩; have n0_ := am (blk_below BK417.out hb); have n1_ := am (blk_below BK418.out hb); have n2_ := am (blk_below BK425.out hb); have n3_ := am (blk_below BK426.out hb); have n4_ := am (below_step (by repeat (first | exact HB.out | refine below_set ?_ GE417.out | refine below_set ?_ GE418.out | refine below_set ?_ GE425.out | refine below_set ?_ GE426.out)) hb); clear BK417; clear BK418; clear BK425; clear BK426; clear HB; have BK417 := n0_; have BK418 := n1_; have BK425 := n2_; have BK426 := n3_; have HB := n4_; clear n0_ n1_ n2_ n3_ n4_; (try clear hb); (try clear hb2); (try clear hk); (try clear hi)) | ((with_reducible refine gate_callee (f := 17) rfl ?_); refine goesL_ (some 131) rfl rfl Try.func17 (by kernel_rfl) rfl #[.int .u64 a2] rfl (by (try simp only [List.map_toArray, List.map_cons, List.map_nil]); first | done | rfl) ?_; (with_reducible refine (tnum_Const.calls a2 t469 t470 _ A163.out).mono ?_); rintro e w175 ⟨rfl, hb⟩; refine ⟨_, rfl, ?_⟩; have n0_ := am (blk_below BK417.out hb); have n1_ := am (blk_below BK418.out hb); have n2_ := am (blk_below BK425.out hb); have n3_ := am (blk_below BK426.out hb); have n4_ := am (below_step (by repeat (first | exact HB.out | refine below_set ?_ GE417.out | refine below_set ?_ GE418.out | refine below_set ?_ GE425.out | refine below_set ?_ GE426.out)) hb); clear BK417; clear BK418; clear BK425; clear BK426; clear HB; have BK417 := n0_; have BK418 := n1_; have BK425 := n2_; have BK426 := n3_; have HB := n4_; clear n0_ n1_ n2_ n3_ n4_; (try clear hb); (try clear hb2); (try clear hk); (try clear hi)) | ((with_reducible refine gate_dst (N := 20) rfl ?_); refine box_event ?hg (N := 20) ?hd (cs := #[.int .u64 0, .int .u64 0]) (t := 24) ?hr ?_; (case hd => rfl); (case hg => rfl); (case hr => first | (go_simp; done) | (go_simp; rfl)); intro gb471 hg w176 hbox hb; have n0_ := am (blk_below BK417.out hb); have n1_ := am (blk_below BK418.out hb); have n2_ := am (blk_below BK425.out hb); have n3_ := am (blk_below BK426.out hb); have n4_ := am (below_step (by repeat (first | exact HB.out | refine below_set ?_ GE417.out | refine below_set ?_ GE418.out | refine below_set ?_ GE425.out | refine below_set ?_ GE426.out)) hb); have n5_ := am (hbox); have n6_ := am ((by rw [hg]; exact (below_size (by repeat (first | exact HB.out | refine below_set ?_ GE417.out | refine below_set ?_ GE418.out | refine below_set ?_ GE425.out | refine below_set ?_ GE426.out))) : w.heap.size ≤ gb471)); have n7_ := am ((by rw [hg]; exact (below_size (by repeat (first | exact HB.out | refine below_set ?_ GE417.out | refine below_set ?_ GE418.out | refine below_set ?_ GE425.out | refine below_set ?_ GE426.out))) : w.heap.size ≤ gb471)); have n8_ := am ((by rw [hg]; exact Nat.ne_of_lt (blk_lt BK417.out) : gb417 ≠ gb471)); have n9_ := am ((by rw [hg]; exact Nat.ne_of_gt (blk_lt BK417.out) : gb471 ≠ gb417)); have n10_ := am ((by rw [hg]; exact Nat.ne_of_lt (blk_lt BK418.out) : gb418 ≠ gb471)); have n11_ := am ((by rw [hg]; exact Nat.ne_of_gt (blk_lt BK418.out) : gb471 ≠ gb418)); have n12_ := am ((by rw [hg]; exact Nat.ne_of_lt (blk_lt BK425.out) : gb425 ≠ gb471)); have n13_ := am ((by rw [hg]; exact Nat.ne_of_gt (blk_lt BK425.out) : gb471 ≠ gb425)); have n14_ := am ((by rw [hg]; exact Nat.ne_of_lt (blk_lt BK426.out) : gb426 ≠ gb471)); have n15_ := am ((by rw [hg]; exact Nat.ne_of_gt (blk_lt BK426.out) : gb471 ≠ gb426)); clear BK417; clear BK418; clear BK425; clear BK426; clear HB; have BK417 := n0_; have BK418 := n1_; have BK425 := n2_; have BK426 := n3_; have HB := n4_; have BK471 := n5_; have GW471 := n6_; have GE471 := n7_; have NB417_471 := n8_; have NB471_417 := n9_; have NB418_471 := n10_; have NB471_418 := n11_; have NB425_471 := n12_; have NB471_425 := n13_; have NB426_471 := n14_; have NB471_426 := n15_; clear n0_ n1_ n2_ n3_ n4_ n5_ n6_ n7_ n8_ n9_ n10_ n11_ n12_ n13_ n14_ n15_; clear hb hbox hg) | ((with_reducible refine gate_dst (N := 21) rfl ?_); refine box_event ?hg (N := 21) ?hd (cs := #[.int .u64 0, .int .u64 0]) (t := 24) ?hr ?_; (case hd => rfl); (case hg => rfl); (case hr => first | (go_simp; done) | (go_simp; rfl)); intro gb472 hg w177 hbox hb; have n0_ := am (blk_below BK417.out hb); have n1_ := am (blk_below BK418.out hb); have n2_ := am (blk_below BK425.out hb); have n3_ := am (blk_below BK426.out hb); have n4_ := am (blk_below BK471.out hb); have n5_ := am (below_step (by repeat (first | exact HB.out | refine below_set ?_ GE417.out | refine below_set ?_ GE418.out | refine below_set ?_ GE425.out | refine below_set ?_ GE426.out | refine below_set ?_ GE471.out)) hb); have n6_ := am (hbox); have n7_ := am ((by rw [hg]; exact (below_size (by repeat (first | exact HB.out | refine below_set ?_ GE417.out | refine below_set ?_ GE418.out | refine below_set ?_ GE425.out | refine below_set ?_ GE426.out | refine below_set ?_ GE471.out))) : w.heap.size ≤ gb472)); have n8_ := am ((by rw [hg]; exact (below_size (by repeat (first | exact HB.out | refine below_set ?_ GE417.out | refine below_set ?_ GE418.out | refine below_set ?_ GE425.out | refine below_set ?_ GE426.out | refine below_set ?_ GE471.out))) : w.heap.size ≤ gb472)); have n9_ := am ((by rw [hg]; exact Nat.ne_of_lt (blk_lt BK417.out) : gb417 ≠ gb472)); have n10_ := am ((by rw [hg]; exact Nat.ne_of_gt (blk_lt BK417.out) : gb472 ≠ gb417)); have n11_ := am ((by rw [hg]; exact Nat.ne_of_lt (blk_lt BK418.out) : gb418 ≠ gb472)); have n12_ := am ((by rw [hg]; exact Nat.ne_of_gt (blk_lt BK418.out) : gb472 ≠ gb418)); have n13_ := am ((by rw [hg]; exact Nat.ne_of_lt (blk_lt BK425.out) : gb425 ≠ gb472)); have n14_ := am ((by rw [hg]; exact Nat.ne_of_gt (blk_lt BK425.out) : gb472 ≠ gb425)); have n15_ := am ((by rw [hg]; exact Nat.ne_of_lt (blk_lt BK426.out) : gb426 ≠ gb472)); have n16_ := am ((by rw [hg]; exact Nat.ne_of_gt (blk_lt BK426.out) : gb472 ≠ gb426)); have n17_ := am ((by rw [hg]; exact Nat.ne_of_lt (blk_lt BK471.out) : gb471 ≠ gb472)); have n18_ := am ((by rw [hg]; exact Nat.ne_of_gt (blk_lt BK471.out) : gb472 ≠ gb471)); clear BK417; clear BK418; clear BK425; clear BK426; clear BK471; clear HB; have BK417 := n0_; have BK418 := n1_; have BK425 := n2_; have BK426 := n3_; have BK471 := n4_; have HB := n5_; have BK472 := n6_; have GW472 := n7_; have GE472 := n8_; have NB417_472 := n9_; have NB472_417 := n10_; have NB418_472 := n11_; have NB472_418 := n12_; have NB425_472 := n13_; have NB472_425 := n14_; have NB426_472 := n15_; have NB472_426 := n16_; have NB471_472 := n17_; have NB472_471 := n18_; clear n0_ n1_ n2_ n3_ n4_ n5_ n6_ n7_ n8_ n9_ n10_ n11_ n12_ n13_ n14_ n15_ n16_ n17_ n18_; clear hb hbox hg; have hnb178 := NB471_417.out; have hnc178 := NB417_471.out; have hnb179 := NB471_418.out; have hnc179 := NB418_471.out; have hnb180 := NB471_425.out; have hnc180 := NB425_471.out; have hnb181 := NB471_426.out; have hnc181 := NB426_471.out; have hnb182 := NB471_472.out; have hnc182 := NB472_471.out; have hcz183_0 : w177.cell? ⟨gb471, 0, none⟩ = some (.int .u64 0) := (blk_cell BK471.out 0).trans rfl; have hcz183_1 : w177.cell? ⟨gb471, 1, none⟩ = some (.int .u64 0) := (blk_cell BK471.out 1).trans rfl; have hfz183_0 := blk_frozen BK471.out 0; have hfz183_1 := blk_frozen BK471.out 1; have hnb184 := NB472_417.out; have hnc184 := NB417_472.out; have hnb185 := NB472_418.out; have hnc185 := NB418_472.out; have hnb186 := NB472_425.out; have hnc186 := NB425_472.out; have hnb187 := NB472_426.out; have hnc187 := NB426_472.out; have hcz188_0 : w177.cell? ⟨gb472, 0, none⟩ = some (.int .u64 0) := (blk_cell BK472.out 0).trans rfl; have hcz188_1 : w177.cell? ⟨gb472, 1, none⟩ = some (.int .u64 0) := (blk_cell BK472.out 1).trans rfl; have hfz188_0 := blk_frozen BK472.out 0; have hfz188_1 := blk_frozen BK472.out 1) | ((with_reducible refine gate_callee (f := 33) rfl ?_); refine goesL_ (some 134) rfl rfl Try.func33 (by kernel_rfl) rfl #[.agg #[.int .u64 t467, .int .u64 t468], .agg #[.int .u64 t469, .int .u64 t470]] rfl (by (try simp only [List.map_toArray, List.map_cons, List.map_nil]); first | done | rfl) ?_; (with_reducible refine (tnum_Mul.calls kj129 t467 t468 t469 t470 t473 t474 _ A164.out).mono ?_); rintro e w189 ⟨rfl, hb⟩; refine ⟨_, rfl, ?_⟩; have n0_ := am (blk_below (g := gb417) (o := .cells #[.int .u64 t413, .int .u64 t414] 24 (0, 0)) (by (with_reducible repeat (first | refine blk_drewN ?_ _ | refine blk_drew ?_ | refine blk_alloc ?_ _)); refine blk_far ?_ NB417_472.out _; (with_reducible repeat (first | refine blk_drewN ?_ _ | refine blk_drew ?_ | refine blk_alloc ?_ _)); refine blk_far ?_ NB417_472.out _; (with_reducible repeat (first | refine blk_drewN ?_ _ | refine blk_drew ?_ | refine blk_alloc ?_ _)); refine blk_far ?_ NB417_471.out _; (with_reducible repeat (first | refine blk_drewN ?_ _ | refine blk_drew ?_ | refine blk_alloc ?_ _)); refine blk_far ?_ NB417_471.out _; (with_reducible repeat (first | refine blk_drewN ?_ _ | refine blk_drew ?_ | refine blk_alloc ?_ _)); exact BK417.out) hb); have n1_ := am (blk_below (g := gb418) (o := .cells #[.int .u64 t415, .int .u64 t416] 24 (0, 0)) (by (with_reducible repeat (first | refine blk_drewN ?_ _ | refine blk_drew ?_ | refine blk_alloc ?_ _)); refine blk_far ?_ NB418_472.out _; (with_reducible repeat (first | refine blk_drewN ?_ _ | refine blk_drew ?_ | refine blk_alloc ?_ _)); refine blk_far ?_ NB418_472.out _; (with_reducible repeat (first | refine blk_drewN ?_ _ | refine blk_drew ?_ | refine blk_alloc ?_ _)); refine blk_far ?_ NB418_471.out _; (with_reducible repeat (first | refine blk_drewN ?_ _ | refine blk_drew ?_ | refine blk_alloc ?_ _)); refine blk_far ?_ NB418_471.out _; (with_reducible repeat (first | refine blk_drewN ?_ _ | refine blk_drew ?_ | refine blk_alloc ?_ _)); exact BK418.out) hb); have n2_ := am (blk_below (g := gb425) (o := .cells #[.int .u64 t420, .int .u64 t421] 24 (0, 0)) (by (with_reducible repeat (first | refine blk_drewN ?_ _ | refine blk_drew ?_ | refine blk_alloc ?_ _)); refine blk_far ?_ NB425_472.out _; (with_reducible repeat (first | refine blk_drewN ?_ _ | refine blk_drew ?_ | refine blk_alloc ?_ _)); refine blk_far ?_ NB425_472.out _; (with_reducible repeat (first | refine blk_drewN ?_ _ | refine blk_drew ?_ | refine blk_alloc ?_ _)); refine blk_far ?_ NB425_471.out _; (with_reducible repeat (first | refine blk_drewN ?_ _ | refine blk_drew ?_ | refine blk_alloc ?_ _)); refine blk_far ?_ NB425_471.out _; (with_reducible repeat (first | refine blk_drewN ?_ _ | refine blk_drew ?_ | refine blk_alloc ?_ _)); exact BK425.out) hb); have n3_ := am (blk_below (g := gb426) (o := .cells #[.int .u64 t423, .int .u64 t424] 24 (0, 0)) (by (with_reducible repeat (first | refine blk_drewN ?_ _ | refine blk_drew ?_ | refine blk_alloc ?_ _)); refine blk_far ?_ NB426_472.out _; (with_reducible repeat (first | refine blk_drewN ?_ _ | refine blk_drew ?_ | refine blk_alloc ?_ _)); refine blk_far ?_ NB426_472.out _; (with_reducible repeat (first | refine blk_drewN ?_ _ | refine blk_drew ?_ | refine blk_alloc ?_ _)); refine blk_far ?_ NB426_471.out _; (with_reducible repeat (first | refine blk_drewN ?_ _ | refine blk_drew ?_ | refine blk_alloc ?_ _)); refine blk_far ?_ NB426_471.out _; (with_reducible repeat (first | refine blk_drewN ?_ _ | refine blk_drew ?_ | refine blk_alloc ?_ _)); exact BK426.out) hb); have n4_ := am (blk_below (g := gb471) (o := .cells #[.int .u64 t467, .int .u64 t468] 24 (0, 0)) (by (with_reducible repeat (first | refine blk_drewN ?_ _ | refine blk_drew ?_ | refine blk_alloc ?_ _)); refine blk_far ?_ NB471_472.out _; (with_reducible repeat (first | refine blk_drewN ?_ _ | refine blk_drew ?_ | refine blk_alloc ?_ _)); refine blk_far ?_ NB471_472.out _; (with_reducible repeat (first | refine blk_drewN ?_ _ | refine blk_drew ?_ | refine blk_alloc ?_ _)); refine blk_put (cs := #[.int .u64 t467, .int .u64 0]) ?_ 1 _ rfl; (with_reducible repeat (first | refine blk_drewN ?_ _ | refine blk_drew ?_ | refine blk_alloc ?_ _)); refine blk_put (cs := #[.int .u64 0, .int .u64 0]) ?_ 0 _ rfl; (with_reducible repeat (first | refine blk_drewN ?_ _ | refine blk_drew ?_ | refine blk_alloc ?_ _)); exact BK471.out) hb); have n5_ := am (blk_below (g := gb472) (o := .cells #[.int .u64 t469, .int .u64 t470] 24 (0, 0)) (by (with_reducible repeat (first | refine blk_drewN ?_ _ | refine blk_drew ?_ | refine blk_alloc ?_ _)); refine blk_put (cs := #[.int .u64 t469, .int .u64 0]) ?_ 1 _ rfl; (with_reducible repeat (first | refine blk_drewN ?_ _ | refine blk_drew ?_ | refine blk_alloc ?_ _)); refine blk_put (cs := #[.int .u64 0, .int .u64 0]) ?_ 0 _ rfl; (with_reducible repeat (first | refine blk_drewN ?_ _ | refine blk_drew ?_ | refine blk_alloc ?_ _)); refine blk_far ?_ NB472_471.out _; (with_reducible repeat (first | refine blk_drewN ?_ _ | refine blk_drew ?_ | refine blk_alloc ?_ _)); refine blk_far ?_ NB472_471.out _; (with_reducible repeat (first | refine blk_drewN ?_ _ | refine blk_drew ?_ | refine blk_alloc ?_ _)); exact BK472.out) hb); have n6_ := am (below_step (by repeat (first | exact HB.out | refine below_set ?_ GE417.out | refine below_set ?_ GE418.out | refine below_set ?_ GE425.out | refine below_set ?_ GE426.out | refine below_set ?_ GE471.out | refine below_set ?_ GE472.out)) hb); clear BK417; clear BK418; clear BK425; clear BK426; clear BK471; clear BK472; clear HB; have BK417 := n0_; have BK418 := n1_; have BK425 := n2_; have BK426 := n3_; have BK471 := n4_; have BK472 := n5_; have HB := n6_; clear n0_ n1_ n2_ n3_ n4_ n5_ n6_; (try clear hb); (try clear hb2); (try clear hk); (try clear hi)) | ((with_reducible refine gate_callee (f := 17) rfl ?_); refine goesL_ (some 138) rfl rfl Try.func17 (by kernel_rfl) rfl #[.int .u64 (IntKind.u64.wrap (a0 * a2))] rfl (by (try simp only [List.map_toArray, List.map_cons, List.map_nil]); first | done | rfl) ?_; (with_reducible refine (tnum_Const.calls (IntKind.u64.wrap (a0 * a2)) t475 t476 _ A165.out).mono ?_); rintro e w190 ⟨rfl, hb⟩; refine ⟨_, rfl, ?_⟩; have n0_ := am (blk_below BK417.out hb); have n1_ := am (blk_below BK418.out hb); have n2_ := am (blk_below BK425.out hb); have n3_ := am (blk_below BK426.out hb); have n4_ := am (blk_below BK471.out hb); have n5_ := am (blk_below BK472.out hb); have n6_ := am (below_step (by repeat (first | exact HB.out | refine below_set ?_ GE417.out | refine below_set ?_ GE418.out | refine below_set ?_ GE425.out | refine below_set ?_ GE426.out | refine below_set ?_ GE471.out | refine below_set ?_ GE472.out)) hb); clear BK417; clear BK418; clear BK425; clear BK426; clear BK471; clear BK472; clear HB; have BK417 := n0_; have BK418 := n1_; have BK425 := n2_; have BK426 := n3_; have BK471 := n4_; have BK472 := n5_; have HB := n6_; clear n0_ n1_ n2_ n3_ n4_ n5_ n6_; (try clear hb); (try clear hb2); (try clear hk); (try clear hi); have hcz191_0 : w190.cell? ⟨gb471, 0, none⟩ = some (.int .u64 t467) := (blk_cell BK471.out 0).trans rfl; have hcz191_1 : w190.cell? ⟨gb471, 1, none⟩ = some (.int .u64 t468) := (blk_cell BK471.out 1).trans rfl; have hfz191_0 := blk_frozen BK471.out 0; have hfz191_1 := blk_frozen BK471.out 1; have hcz192_0 : w190.cell? ⟨gb472, 0, none⟩ = some (.int .u64 t469) := (blk_cell BK472.out 0).trans rfl; have hcz192_1 : w190.cell? ⟨gb472, 1, none⟩ = some (.int .u64 t470) := (blk_cell BK472.out 1).trans rfl; have hfz192_0 := blk_frozen BK472.out 0; have hfz192_1 := blk_frozen BK472.out 1) | (go_at_call 31; (with_reducible refine (tnum_Sub.calls t467 t468 t469 t470 t477 t478 _ A167.out).mono ?_); rintro e w193 ⟨rfl, hb⟩; have n0_ := am (blk_below BK417.out hb); have n1_ := am (blk_below BK418.out hb); have n2_ := am (blk_below BK425.out hb); have n3_ := am (blk_below BK426.out hb); have n4_ := am (blk_below BK471.out hb); have n5_ := am (blk_below BK472.out hb); have n6_ := am (below_step (by repeat (first | exact HB.out | refine below_set ?_ GE417.out | refine below_set ?_ GE418.out | refine below_set ?_ GE425.out | refine below_set ?_ GE426.out | refine below_set ?_ GE471.out | refine below_set ?_ GE472.out)) hb); clear BK417; clear BK418; clear BK425; clear BK426; clear BK471; clear BK472; clear HB; have BK417 := n0_; have BK418 := n1_; have BK425 := n2_; have BK426 := n3_; have BK471 := n4_; have BK472 := n5_; have HB := n6_; clear n0_ n1_ n2_ n3_ n4_ n5_ n6_; (try clear hb); (try clear hb2); (try clear hk); (try clear hi)) | (go_at_call 17; (with_reducible refine (tnum_Const.calls (IntKind.u64.wrap (a0 - a2)) t479 t480 _ A168.out).mono ?_); rintro e w194 ⟨rfl, hb⟩; have n0_ := am (blk_below BK417.out hb); have n1_ := am (blk_below BK418.out hb); have n2_ := am (blk_below BK425.out hb); have n3_ := am (blk_below BK426.out hb); have n4_ := am (blk_below BK471.out hb); have n5_ := am (blk_below BK472.out hb); have n6_ := am (below_step (by repeat (first | exact HB.out | refine below_set ?_ GE417.out | refine below_set ?_ GE418.out | refine below_set ?_ GE425.out | refine below_set ?_ GE426.out | refine below_set ?_ GE471.out | refine below_set ?_ GE472.out)) hb); clear BK417; clear BK418; clear BK425; clear BK426; clear BK471; clear BK472; clear HB; have BK417 := n0_; have BK418 := n1_; have BK425 := n2_; have BK426 := n3_; have BK471 := n4_; have BK472 := n5_; have HB := n6_; clear n0_ n1_ n2_ n3_ n4_ n5_ n6_; (try clear hb); (try clear hb2); (try clear hk); (try clear hi); have hcz195_0 : w194.cell? ⟨gb471, 0, none⟩ = some (.int .u64 t467) := (blk_cell BK471.out 0).trans rfl; have hcz195_1 : w194.cell? ⟨gb471, 1, none⟩ = some (.int .u64 t468) := (blk_cell BK471.out 1).trans rfl; have hfz195_0 := blk_frozen BK471.out 0; have hfz195_1 := blk_frozen BK471.out 1; have hcz196_0 : w194.cell? ⟨gb472, 0, none⟩ = some (.int .u64 t469) := (blk_cell BK472.out 0).trans rfl; have hcz196_1 : w194.cell? ⟨gb472, 1, none⟩ = some (.int .u64 t470) := (blk_cell BK472.out 1).trans rfl; have hfz196_0 := blk_frozen BK472.out 0; have hfz196_1 := blk_frozen BK472.out 1) | (go_at_call 29; (with_reducible refine (tnum_Add.calls t467 t468 t469 t470 t481 t482 _ A170.out).mono ?_); rintro e w197 ⟨rfl, hb⟩; have n0_ := am (blk_below BK417.out hb); have n1_ := am (blk_below BK418.out hb); have n2_ := am (blk_below BK425.out hb); have n3_ := am (blk_below BK426.out hb); have n4_ := am (blk_below BK471.out hb); have n5_ := am (blk_below BK472.out hb); have n6_ := am (below_step (by repeat (first | exact HB.out | refine below_set ?_ GE417.out | refine below_set ?_ GE418.out | refine below_set ?_ GE425.out | refine below_set ?_ GE426.out | refine below_set ?_ GE471.out | refine below_set ?_ GE472.out)) hb); clear BK417; clear BK418; clear BK425; clear BK426; clear BK471; clear BK472; clear HB; have BK417 := n0_; have BK418 := n1_; have BK425 := n2_; have BK426 := n3_; have BK471 := n4_; have BK472 := n5_; have HB := n6_; clear n0_ n1_ n2_ n3_ n4_ n5_ n6_; (try clear hb); (try clear hb2); (try clear hk); (try clear hi)) | (go_at_call 17; (with_reducible refine (tnum_Const.calls (IntKind.u64.wrap (a0 + a2)) t483 t484 _ A171.out).mono ?_); rintro e w198 ⟨rfl, hb⟩; have n0_ := am (blk_below BK417.out hb); have n1_ := am (blk_below BK418.out hb); have n2_ := am (blk_below BK425.out hb); have n3_ := am (blk_below BK426.out hb); have n4_ := am (blk_below BK471.out hb); have n5_ := am (blk_below BK472.out hb); have n6_ := am (below_step (by repeat (first | exact HB.out | refine below_set ?_ GE417.out | refine below_set ?_ GE418.out | refine below_set ?_ GE425.out | refine below_set ?_ GE426.out | refine below_set ?_ GE471.out | refine below_set ?_ GE472.out)) hb); clear BK417; clear BK418; clear BK425; clear BK426; clear BK471; clear BK472; clear HB; have BK417 := n0_; have BK418 := n1_; have BK425 := n2_; have BK426 := n3_; have BK471 := n4_; have BK472 := n5_; have HB := n6_; clear n0_ n1_ n2_ n3_ n4_ n5_ n6_; (try clear hb); (try clear hb2); (try clear hk); (try clear hi)) | (go_at_call 24; (with_reducible refine (wardenlaw03_works.calls kj129 t485 _ hr_ A173.out).mono ?_); rintro e w199 ⟨rfl, hb⟩; have n0_ := am (blk_below BK417.out hb); have n1_ := am (blk_below BK418.out hb); have n2_ := am (blk_below BK425.out hb); have n3_ := am (blk_below BK426.out hb); have n4_ := am (blk_below BK471.out hb); have n5_ := am (blk_below BK472.out hb); have n6_ := am (below_step (by repeat (first | exact HB.out | refine below_set ?_ GE417.out | refine below_set ?_ GE418.out | refine below_set ?_ GE425.out | refine below_set ?_ GE426.out | refine below_set ?_ GE471.out | refine below_set ?_ GE472.out)) hb); clear BK417; clear BK418; clear BK425; clear BK426; clear BK471; clear BK472; clear HB; have BK417 := n0_; have BK418 := n1_; have BK425 := n2_; have BK426 := n3_; have BK471 := n4_; have BK472 := n5_; have HB := n6_; clear n0_ n1_ n2_ n3_ n4_ n5_ n6_; (try clear hb); (try clear hb2); (try clear hk); (try clear hi)))
             go_ret
             exact ⟨by first | rfl | (simp [errW_none, errW_some] <;> rfl) | (simp [*, errW_none, errW_some] <;> rfl), by repeat (first | (with_reducible first | exact HB.out | apply below_alloc | apply pw_below_drewN | apply below_drew1 | refine below_set ?_ GE417.out | refine below_set ?_ GE418.out | refine below_set ?_ GE425.out | refine below_set ?_ GE426.out | refine below_set ?_ GE471.out | refine below_set ?_ GE472.out) | exact HB.out)⟩
            ·rw [if_neg c172] at H
             have c172b0 : (t481 == t483 && (t482 == t484)) = false := by simpa using c172
             (try (have c172b1 : decide (t481 = t483 && (t482 == t484)) = false := by simpa using c172))
             (try (have c172b2 : (t481 == t483 && (t482 == t484)) = false := by simpa using c172))
             (try (have c172b3 : ¬ (t481 = t483 && (t482 == t484)) := by simpa using c172))
             clear c172
             exact absurd ((Option.some.inj H).trans hr_.out) (by decide)
           ·rw [if_neg c169] at H
            have c169b0 : (t477 == t479 && (t478 == t480)) = false := by simpa using c169
            (try (have c169b1 : decide (t477 = t479 && (t478 == t480)) = false := by simpa using c169))
            (try (have c169b2 : (t477 == t479 && (t478 == t480)) = false := by simpa using c169))
            (try (have c169b3 : ¬ (t477 = t479 && (t478 == t480)) := by simpa using c169))
            clear c169
            exact absurd ((Option.some.inj H).trans hr_.out) (by decide)
          ·rw [if_neg c166] at H
           have c166b0 : (t473 == t475 && (t474 == t476)) = false := by simpa using c166
           (try (have c166b1 : decide (t473 = t475 && (t474 == t476)) = false := by simpa using c166))
           (try (have c166b2 : (t473 == t475 && (t474 == t476)) = false := by simpa using c166))
           (try (have c166b3 : ¬ (t473 = t475 && (t474 == t476)) := by simpa using c166))
           clear c166
           exact absurd ((Option.some.inj H).trans hr_.out) (by decide)
/-- THE ONE PURE STATEMENT of wardenlaw03_TnumOrder: yours. -/
def wardenlaw03_TnumOrder.Pure : Prop := ∀ (a0 : Int) (a1 : Int) (a2 : Int) (a3 : Int) (a4 : Int) (a5 : Int) (a6 : Int), (Lit.int .u64 a0).wf = true → (Lit.int .u64 a1).wf = true → (Lit.int .u64 a2).wf = true → (Lit.int .u64 a3).wf = true → (Lit.int .u64 a4).wf = true → (Lit.int .u64 a5).wf = true → (Lit.int .u8 a6).wf = true → ∃ k, wardenlaw03_TnumOrder.f k a0 a1 a2 a3 a4 a5 a6 = some true
theorem wardenlaw03_TnumOrder.walk (P : wardenlaw03_TnumOrder.Pure) (a0 : Int) (a1 : Int) (a2 : Int) (a3 : Int) (a4 : Int) (a5 : Int) (a6 : Int) (w : World) (w0 : (Lit.int .u64 a0).wf = true) (w1 : (Lit.int .u64 a1).wf = true) (w2 : (Lit.int .u64 a2).wf = true) (w3 : (Lit.int .u64 a3).wf = true) (w4 : (Lit.int .u64 a4).wf = true) (w5 : (Lit.int .u64 a5).wf = true) (w6 : (Lit.int .u8 a6).wf = true) :
  Calls Try.prog 6 #[.int .u64 a0, .int .u64 a1, .int .u64 a2, .int .u64 a3, .int .u64 a4, .int .u64 a5, .int .u8 a6] w fun e w' => e = .returned (.bool true) ∧ Below w.heap.size w w' := by
 obtain ⟨k, h⟩ := P a0 a1 a2 a3 a4 a5 a6 w0 w1 w2 w3 w4 w5 w6
 refine (wardenlaw03_TnumOrder.calls k a0 a1 a2 a3 a4 a5 a6 true w ⟨rfl⟩ h).mono ?_
 rintro e w' ⟨rfl, hd⟩
 exact ⟨rfl, hd⟩

end Go.Proofs.Ytnljfoaacngamaa.PD
