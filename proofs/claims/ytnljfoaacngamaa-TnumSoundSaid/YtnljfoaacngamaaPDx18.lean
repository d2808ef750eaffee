-- turned from the kit's print
import Derived.Test.YtnljfoaacngamaaPDx0
import Derived.Test.YtnljfoaacngamaaPDx2
import Derived.Test.YtnljfoaacngamaaPDx4
import Derived.Test.YtnljfoaacngamaaPDx5
import Derived.Test.YtnljfoaacngamaaPDx7
import Derived.Test.YtnljfoaacngamaaPDx8
import Derived.Test.YtnljfoaacngamaaPDx10
import Derived.Test.YtnljfoaacngamaaPDx12
import Derived.Test.YtnljfoaacngamaaPDx13
import Derived.Test.YtnljfoaacngamaaPDx15
namespace Go.Proofs.Ytnljfoaacngamaa.PD
open Go.RowKit Go.Proofs.YtnljfoaacngamaaW.PrintWords Go.Proofs.YtnljfoaacngamaaW.PrintLast Go.Proofs.YtnljfoaacngamaaW.PrintMore
attribute [local go_sem] max2_int min2_int max_two min_two max_three min_three max_four min_four   -- for this text's walks alone
set_option linter.unusedVariables false
set_option linter.unusedSimpArgs false

/-! ### wardenlaw03_TnumSound: function 8 -/
mutual
def wardenlaw03_TnumSound.j0 : Nat → Int → Int → Int → Int → Int → Bool → Int → Int → Int → Int → Option (Bool)
  | 0, _, _, _, _, _, _, _, _, _, _ => none
  | k + 1, x4, x5, x17, x18, x19, x74, x552000, x552001, x553000, x553001 => if x74 = true then (some false) else ((tnum_And.f x552000 x552001 x553000 x553001).bind fun bt565 => ((tnum_Has.f bt565.1 bt565.2 (Go.bits .and .u64 x17 x18)).bind fun t567 => (if t567 = true then ((tnum_Or.f x552000 x552001 x553000 x553001).bind fun bt568 => ((tnum_Has.f bt568.1 bt568.2 (Go.bits .or .u64 x17 x18)).bind fun t570 => (if t570 = true then ((tnum_Xor.f x552000 x552001 x553000 x553001).bind fun bt571 => ((tnum_Has.f bt571.1 bt571.2 (Go.bits .xor .u64 x17 x18)).bind fun t573 => (if t573 = true then ((tnum_Join.f x552000 x552001 x553000 x553001).bind fun bt574 => ((tnum_Has.f bt574.1 bt574.2 x17).bind fun t576 => (if t576 = true then ((tnum_Join.f x552000 x552001 x553000 x553001).bind fun bt577 => ((tnum_Has.f bt577.1 bt577.2 x18).bind fun t579 => (wardenlaw03_TnumSound.j1 k x4 x5 x17 x19 (!t579) x552000 x552001 x553000 x553001))) else (wardenlaw03_TnumSound.j1 k x4 x5 x17 x19 true x552000 x552001 x553000 x553001)))) else (wardenlaw03_TnumSound.j1 k x4 x5 x17 x19 true x552000 x552001 x553000 x553001)))) else (wardenlaw03_TnumSound.j1 k x4 x5 x17 x19 true x552000 x552001 x553000 x553001)))) else (wardenlaw03_TnumSound.j1 k x4 x5 x17 x19 true x552000 x552001 x553000 x553001))))
def wardenlaw03_TnumSound.j1 : Nat → Int → Int → Int → Int → Bool → Int → Int → Int → Int → Option (Bool)
  | 0, _, _, _, _, _, _, _, _, _ => none
  | k + 1, x4, x5, x17, x19, x118, x552000, x552001, x553000, x553001 => if x118 = true then (some false) else ((tnum_Shl.f x552000 x552001 x19).bind fun bt580 => (if 0 ≤ x19 then ((tnum_Has.f bt580.1 bt580.2 (shl .u64 x17 x19)).bind fun t582 => (if t582 = true then ((tnum_Shr.f x552000 x552001 x19).bind fun bt583 => ((tnum_Has.f bt583.1 bt583.2 (shr .u64 x17 x19)).bind fun t585 => (if t585 = true then ((tnum_Sar.f x552000 x552001 x19).bind fun bt586 => ((tnum_Has.f bt586.1 bt586.2 (IntKind.u64.wrap (shr .i64 (wrap64 (x17)) x19))).bind fun t588 => (wardenlaw03_TnumSound.j2 k x4 x5 x17 x19 (!t588) x552000 x552001 x553000 x553001))) else (wardenlaw03_TnumSound.j2 k x4 x5 x17 x19 true x552000 x552001 x553000 x553001)))) else (wardenlaw03_TnumSound.j2 k x4 x5 x17 x19 true x552000 x552001 x553000 x553001))) else (none)))
def wardenlaw03_TnumSound.j2 : Nat → Int → Int → Int → Int → Bool → Int → Int → Int → Int → Option (Bool)
  | 0, _, _, _, _, _, _, _, _, _ => none
  | k + 1, x4, x5, x17, x19, x148, x552000, x552001, x553000, x553001 => if x148 = true then (some false) else (if x19 < 64 then (if 0 ≤ x19 then (wardenlaw03_TnumSound.j3 k x4 x5 x17 x19 (Go.bits .and .u64 x17 (IntKind.u64.wrap ((shl .u64 1 x19) - 1))) x552000 x552001 x553000 x553001) else (none)) else (wardenlaw03_TnumSound.j3 k x4 x5 x17 x19 x17 x552000 x552001 x553000 x553001))
def wardenlaw03_TnumSound.j3 : Nat → Int → Int → Int → Int → Int → Int → Int → Int → Int → Option (Bool)
  | 0, _, _, _, _, _, _, _, _, _ => none
  | k + 1, x4, x5, x17, x19, x20, x552000, x552001, x553000, x553001 => (tnum_Low.f x552000 x552001 x19).bind fun bt589 => ((tnum_Has.f bt589.1 bt589.2 x20).bind fun t591 => (if t591 = true then ((tnum_Meet.f x552000 x552001 x553000 x553001).bind fun bt592 => ((tnum_Has.f x553000 x553001 x17).bind fun t596 => (if bt592.2.2 = true then ((tnum_Has.f bt592.1 bt592.2.1 x17).bind fun t597 => (wardenlaw03_TnumSound.j4 k x4 x5 (t596 != t597))) else (wardenlaw03_TnumSound.j4 k x4 x5 (t596 != false))))) else (some false)))
def wardenlaw03_TnumSound.j4 : Nat → Int → Int → Bool → Option (Bool)
  | 0, _, _, _ => none
  | k + 1, x4, x5, x178 => if x178 = true then (some false) else ((tnum_Range.f k (mn x4 x5) (mx x4 x5)).bind fun bt598 => ((tnum_Has.f bt598.1 bt598.2 (mn x4 x5)).bind fun t601 => (if t601 = true then ((tnum_Has.f bt598.1 bt598.2 (mx x4 x5)).bind fun t602 => (if t602 = true then ((tnum_Has.f bt598.1 bt598.2 (IntKind.u64.wrap ((mn x4 x5) + (IntKind.u64.wrap (Int.tdiv (IntKind.u64.wrap ((mx x4 x5) - (mn x4 x5))) 2))))).bind fun t603 => (if t603 = true then ((wardenlaw03_works.f k).bind fun t604 => (some t604)) else (some false))) else (some false))) else (some false))))
end
def wardenlaw03_TnumSound.f (k : Nat) (a0 : Int) (a1 : Int) (a2 : Int) (a3 : Int) (a4 : Int) (a5 : Int) (a6 : Int) : Option (Bool) := (wardenlaw03_of.f a0 a1).bind fun bt547 => ((wardenlaw03_of.f a2 a3).bind fun bt549 => ((wardenlaw03_some.f bt547.1 bt547.2 a4).bind fun t553 => ((wardenlaw03_some.f bt549.1 bt549.2 a5).bind fun t554 => ((tnum_Has.f bt547.1 bt547.2 t553).bind fun t555 => (if t555 = true then ((tnum_Add.f bt547.1 bt547.2 bt549.1 bt549.2).bind fun bt556 => ((tnum_Has.f bt556.1 bt556.2 (IntKind.u64.wrap (t553 + t554))).bind fun t558 => (if t558 = true then ((tnum_Sub.f bt547.1 bt547.2 bt549.1 bt549.2).bind fun bt559 => ((tnum_Has.f bt559.1 bt559.2 (IntKind.u64.wrap (t553 - t554))).bind fun t561 => (if t561 = true then ((tnum_Mul.f k bt547.1 bt547.2 bt549.1 bt549.2).bind fun bt562 => ((tnum_Has.f bt562.1 bt562.2 (IntKind.u64.wrap (t553 * t554))).bind fun t564 => (wardenlaw03_TnumSound.j0 k a4 a5 t553 t554 (IntKind.u64.wrap (a6)) (!t564) bt547.1 bt547.2 bt549.1 bt549.2))) else (wardenlaw03_TnumSound.j0 k a4 a5 t553 t554 (IntKind.u64.wrap (a6)) true bt547.1 bt547.2 bt549.1 bt549.2)))) else (wardenlaw03_TnumSound.j0 k a4 a5 t553 t554 (IntKind.u64.wrap (a6)) true bt547.1 bt547.2 bt549.1 bt549.2)))) else (wardenlaw03_TnumSound.j0 k a4 a5 t553 t554 (IntKind.u64.wrap (a6)) true bt547.1 bt547.2 bt549.1 bt549.2))))))
theorem wardenlaw03_TnumSound.mono_l : ∀ k, (∀ y0 y1 y2 y3 y4 y5 y6 y7 y8 y9, LeO (wardenlaw03_TnumSound.j0 k y0 y1 y2 y3 y4 y5 y6 y7 y8 y9) (wardenlaw03_TnumSound.j0 (k + 1) y0 y1 y2 y3 y4 y5 y6 y7 y8 y9)) ∧ (∀ y0 y1 y2 y3 y4 y5 y6 y7 y8, LeO (wardenlaw03_TnumSound.j1 k y0 y1 y2 y3 y4 y5 y6 y7 y8) (wardenlaw03_TnumSound.j1 (k + 1) y0 y1 y2 y3 y4 y5 y6 y7 y8)) ∧ (∀ y0 y1 y2 y3 y4 y5 y6 y7 y8, LeO (wardenlaw03_TnumSound.j2 k y0 y1 y2 y3 y4 y5 y6 y7 y8) (wardenlaw03_TnumSound.j2 (k + 1) y0 y1 y2 y3 y4 y5 y6 y7 y8)) ∧ (∀ y0 y1 y2 y3 y4 y5 y6 y7 y8, LeO (wardenlaw03_TnumSound.j3 k y0 y1 y2 y3 y4 y5 y6 y7 y8) (wardenlaw03_TnumSound.j3 (k + 1) y0 y1 y2 y3 y4 y5 y6 y7 y8)) ∧ (∀ y0 y1 y2, LeO (wardenlaw03_TnumSound.j4 k y0 y1 y2) (wardenlaw03_TnumSound.j4 (k + 1) y0 y1 y2))
  | 0 => ⟨fun _ _ _ _ _ _ _ _ _ _ r h => by simp [wardenlaw03_TnumSound.j0] at h, fun _ _ _ _ _ _ _ _ _ r h => by simp [wardenlaw03_TnumSound.j1] at h, fun _ _ _ _ _ _ _ _ _ r h => by simp [wardenlaw03_TnumSound.j2] at h, fun _ _ _ _ _ _ _ _ _ r h => by simp [wardenlaw03_TnumSound.j3] at h, fun _ _ _ r h => by simp [wardenlaw03_TnumSound.j4] at h⟩
  | k + 1 => by
    obtain ⟨ih0, ih1, ih2, ih3, ih4⟩ := wardenlaw03_TnumSound.mono_l k
    refine ⟨?_, ?_, ?_, ?_, ?_⟩
    · intro y0 y1 y2 y3 y4 y5 y6 y7 y8 y9
      unfold wardenlaw03_TnumSound.j0
      repeat' first
      | (with_reducible exact ih0 _ _ _ _ _ _ _ _ _ _)
      | (with_reducible exact ih1 _ _ _ _ _ _ _ _ _)
      | (with_reducible exact ih2 _ _ _ _ _ _ _ _ _)
      | (with_reducible exact ih3 _ _ _ _ _ _ _ _ _)
      | (with_reducible exact ih4 _ _ _)
      | (with_reducible exact tnum_Mul.mono _ _ _ _ _)
      | (with_reducible exact tnum_Range.mono _ _ _)
      | (with_reducible exact wardenlaw03_works.mono _)
      | (with_reducible exact LeO.refl _)
      | (with_reducible exact LeO.none _)
      | (with_reducible refine LeO.ite ?_ ?_)
      | (with_reducible refine LeO.bind ?_ (fun _ => ?_))
      | exact ih0 _ _ _ _ _ _ _ _ _ _
      | exact ih1 _ _ _ _ _ _ _ _ _
      | exact ih2 _ _ _ _ _ _ _ _ _
      | exact ih3 _ _ _ _ _ _ _ _ _
      | exact ih4 _ _ _
      | exact tnum_Mul.mono _ _ _ _ _
      | exact tnum_Range.mono _ _ _
      | exact wardenlaw03_works.mono _
      | exact LeO.none _
      | refine LeO.ite ?_ ?_
      | refine LeO.bind ?_ (fun _ => ?_)
    · intro y0 y1 y2 y3 y4 y5 y6 y7 y8
      unfold wardenlaw03_TnumSound.j1
      repeat' first
      | (with_reducible exact ih0 _ _ _ _ _ _ _ _ _ _)
      | (with_reducible exact ih1 _ _ _ _ _ _ _ _ _)
      | (with_reducible exact ih2 _ _ _ _ _ _ _ _ _)
      | (with_reducible exact ih3 _ _ _ _ _ _ _ _ _)
      | (with_reducible exact ih4 _ _ _)
      | (with_reducible exact tnum_Mul.mono _ _ _ _ _)
      | (with_reducible exact tnum_Range.mono _ _ _)
      | (with_reducible exact wardenlaw03_works.mono _)
      | (with_reducible exact LeO.refl _)
      | (with_reducible exact LeO.none _)
      | (with_reducible refine LeO.ite ?_ ?_)
      | (with_reducible refine LeO.bind ?_ (fun _ => ?_))
      | exact ih0 _ _ _ _ _ _ _ _ _ _
      | exact ih1 _ _ _ _ _ _ _ _ _
      | exact ih2 _ _ _ _ _ _ _ _ _
      | exact ih3 _ _ _ _ _ _ _ _ _
      | exact ih4 _ _ _
      | exact tnum_Mul.mono _ _ _ _ _
      | exact tnum_Range.mono _ _ _
      | exact wardenlaw03_works.mono _
      | exact LeO.none _
      | refine LeO.ite ?_ ?_
      | refine LeO.bind ?_ (fun _ => ?_)
    · intro y0 y1 y2 y3 y4 y5 y6 y7 y8
      unfold wardenlaw03_TnumSound.j2
      repeat' first
      | (with_reducible exact ih0 _ _ _ _ _ _ _ _ _ _)
      | (with_reducible exact ih1 _ _ _ _ _ _ _ _ _)
      | (with_reducible exact ih2 _ _ _ _ _ _ _ _ _)
      | (with_reducible exact ih3 _ _ _ _ _ _ _ _ _)
      | (with_reducible exact ih4 _ _ _)
      | (with_reducible exact tnum_Mul.mono _ _ _ _ _)
      | (with_reducible exact tnum_Range.mono _ _ _)
      | (with_reducible exact wardenlaw03_works.mono _)
      | (with_reducible exact LeO.refl _)
      | (with_reducible exact LeO.none _)
      | (with_reducible refine LeO.ite ?_ ?_)
      | (with_reducible refine LeO.bind ?_ (fun _ => ?_))
      | exact ih0 _ _ _ _ _ _ _ _ _ _
      | exact ih1 _ _ _ _ _ _ _ _ _
      | exact ih2 _ _ _ _ _ _ _ _ _
      | exact ih3 _ _ _ _ _ _ _ _ _
      | exact ih4 _ _ _
      | exact tnum_Mul.mono _ _ _ _ _
      | exact tnum_Range.mono _ _ _
      | exact wardenlaw03_works.mono _
      | exact LeO.none _
      | refine LeO.ite ?_ ?_
      | refine LeO.bind ?_ (fun _ => ?_)
    · intro y0 y1 y2 y3 y4 y5 y6 y7 y8
      unfold wardenlaw03_TnumSound.j3
      repeat' first
      | (with_reducible exact ih0 _ _ _ _ _ _ _ _ _ _)
      | (with_reducible exact ih1 _ _ _ _ _ _ _ _ _)
      | (with_reducible exact ih2 _ _ _ _ _ _ _ _ _)
      | (with_reducible exact ih3 _ _ _ _ _ _ _ _ _)
      | (with_reducible exact ih4 _ _ _)
      | (with_reducible exact tnum_Mul.mono _ _ _ _ _)
      | (with_reducible exact tnum_Range.mono _ _ _)
      | (with_reducible exact wardenlaw03_works.mono _)
      | (with_reducible exact LeO.refl _)
      | (with_reducible exact LeO.none _)
      | (with_reducible refine LeO.ite ?_ ?_)
      | (with_reducible refine LeO.bind ?_ (fun _ => ?_))
      | exact ih0 _ _ _ _ _ _ _ _ _ _
      | exact ih1 _ _ _ _ _ _ _ _ _
      | exact ih2 _ _ _ _ _ _ _ _ _
      | exact ih3 _ _ _ _ _ _ _ _ _
      | exact ih4 _ _ _
      | exact tnum_Mul.mono _ _ _ _ _
      | exact tnum_Range.mono _ _ _
      | exact wardenlaw03_works.mono _
      | exact LeO.none _
      | refine LeO.ite ?_ ?_
      | refine LeO.bind ?_ (fun _ => ?_)
    · intro y0 y1 y2
      unfold wardenlaw03_TnumSound.j4
      repeat' first
      | (with_reducible exact ih0 _ _ _ _ _ _ _ _ _ _)
      | (with_reducible exact ih1 _ _ _ _ _ _ _ _ _)
      | (with_reducible exact ih2 _ _ _ _ _ _ _ _ _)
      | (with_reducible exact ih3 _ _ _ _ _ _ _ _ _)
      | (with_reducible exact ih4 _ _ _)
      | (with_reducible exact tnum_Mul.mono _ _ _ _ _)
      | (with_reducible exact tnum_Range.mono _ _ _)
      | (with_reducible exact wardenlaw03_works.mono _)
      | (with_reducible exact LeO.refl _)
      | (with_reducible exact LeO.none _)
      | (with_reducible refine LeO.ite ?_ ?_)
      | (with_reducible refine LeO.bind ?_ (fun _ => ?_))
      | exact ih0 _ _ _ _ _ _ _ _ _ _
      | exact ih1 _ _ _ _ _ _ _ _ _
      | exact ih2 _ _ _ _ _ _ _ _ _
      | exact ih3 _ _ _ _ _ _ _ _ _
      | exact ih4 _ _ _
      | exact tnum_Mul.mono _ _ _ _ _
      | exact tnum_Range.mono _ _ _
      | exact wardenlaw03_works.mono _
      | exact LeO.none _
      | refine LeO.ite ?_ ?_
      | refine LeO.bind ?_ (fun _ => ?_)
theorem wardenlaw03_TnumSound.mono : ∀ a0 a1 a2 a3 a4 a5 a6 k, LeO (wardenlaw03_TnumSound.f k a0 a1 a2 a3 a4 a5 a6) (wardenlaw03_TnumSound.f (k + 1) a0 a1 a2 a3 a4 a5 a6) := by
  intro a0 a1 a2 a3 a4 a5 a6 k
  obtain ⟨ih0, ih1, ih2, ih3, ih4⟩ := wardenlaw03_TnumSound.mono_l k
  unfold wardenlaw03_TnumSound.f
  repeat' first
      | (with_reducible exact ih0 _ _ _ _ _ _ _ _ _ _)
      | (with_reducible exact ih1 _ _ _ _ _ _ _ _ _)
      | (with_reducible exact ih2 _ _ _ _ _ _ _ _ _)
      | (with_reducible exact ih3 _ _ _ _ _ _ _ _ _)
      | (with_reducible exact ih4 _ _ _)
      | (with_reducible exact tnum_Mul.mono _ _ _ _ _)
      | (with_reducible exact tnum_Range.mono _ _ _)
      | (with_reducible exact wardenlaw03_works.mono _)
      | (with_reducible exact LeO.refl _)
      | (with_reducible exact LeO.none _)
      | (with_reducible refine LeO.ite ?_ ?_)
      | (with_reducible refine LeO.bind ?_ (fun _ => ?_))
      | exact ih0 _ _ _ _ _ _ _ _ _ _
      | exact ih1 _ _ _ _ _ _ _ _ _
      | exact ih2 _ _ _ _ _ _ _ _ _
      | exact ih3 _ _ _ _ _ _ _ _ _
      | exact ih4 _ _ _
      | exact tnum_Mul.mono _ _ _ _ _
      | exact tnum_Range.mono _ _ _
      | exact wardenlaw03_works.mono _
      | exact LeO.none _
      | refine LeO.ite ?_ ?_
      | refine LeO.bind ?_ (fun _ => ?_)
def wardenlaw03_TnumSound.T2 : Bool × List (List Nat × List Nat) := (true, [([], []), ([], []), ([0, 1], [0, 1]), ([], []), ([], []), ([3, 4, 2], [3, 4]), ([2, 5, 0, 1, 2], [2]), ([5, 6, 0, 1, 2, 3, 4, 5, 6], [5])])
def wardenlaw03_TnumSound.B2 : List Nat := [0, 0, 3, 0, 0, 31, 63, 127]
theorem wardenlaw03_TnumSound.tab2 : rtab .any (opsOf Try.f8 2) = wardenlaw03_TnumSound.T2 := by kernel_rfl
theorem wardenlaw03_TnumSound.bits2 : waitsOk wardenlaw03_TnumSound.T2.2 wardenlaw03_TnumSound.B2 = true := by kernel_rfl
set_option maxHeartbeats 8000000 in
set_option maxRecDepth 100000 in
theorem wardenlaw03_TnumSound.calls (k : Nat) (a0 : Int) (a1 : Int) (a2 : Int) (a3 : Int) (a4 : Int) (a5 : Int) (a6 : Int) (r : Bool) (w : World) (hr_ : Aside0 (r = true)) (h : wardenlaw03_TnumSound.f k a0 a1 a2 a3 a4 a5 a6 = some r) :
    Calls Try.prog 8 #[.int .u64 a0, .int .u64 a1, .int .u64 a2, .int .u64 a3, .int .u64 a4, .int .u64 a5, .int .u8 a6] w fun e w' => e = .returned (.bool r) ∧ Below w.heap.size w w' := by
  have hu24 := Try.underlying24
  have HB := Aside0.mk (Below.refl w.heap.size w)
  have H : ((wardenlaw03_of.f a0 a1).bind fun bt547 => ((wardenlaw03_of.f a2 a3).bind fun bt549 => ((wardenlaw03_some.f bt547.1 bt547.2 a4).bind fun t553 => ((wardenlaw03_some.f bt549.1 bt549.2 a5).bind fun t554 => ((tnum_Has.f bt547.1 bt547.2 t553).bind fun t555 => (if t555 = true then ((tnum_Add.f bt547.1 bt547.2 bt549.1 bt549.2).bind fun bt556 => ((tnum_Has.f bt556.1 bt556.2 (IntKind.u64.wrap (t553 + t554))).bind fun t558 => (if t558 = true then ((tnum_Sub.f bt547.1 bt547.2 bt549.1 bt549.2).bind fun bt559 => ((tnum_Has.f bt559.1 bt559.2 (IntKind.u64.wrap (t553 - t554))).bind fun t561 => (if t561 = true then ((tnum_Mul.f k bt547.1 bt547.2 bt549.1 bt549.2).bind fun bt562 => ((tnum_Has.f bt562.1 bt562.2 (IntKind.u64.wrap (t553 * t554))).bind fun t564 => (wardenlaw03_TnumSound.j0 k a4 a5 t553 t554 (IntKind.u64.wrap (a6)) (!t564) bt547.1 bt547.2 bt549.1 bt549.2))) else (wardenlaw03_TnumSound.j0 k a4 a5 t553 t554 (IntKind.u64.wrap (a6)) true bt547.1 bt547.2 bt549.1 bt549.2)))) else (wardenlaw03_TnumSound.j0 k a4 a5 t553 t554 (IntKind.u64.wrap (a6)) true bt547.1 bt547.2 bt549.1 bt549.2)))) else (wardenlaw03_TnumSound.j0 k a4 a5 t553 t554 (IntKind.u64.wrap (a6)) true bt547.1 bt547.2 bt549.1 bt549.2))))))) = some r := h
  clear h
  replace H := Option.bind_eq_some_iff.mp H
  obtain ⟨⟨t547, t548⟩, A80, H⟩ := H
  replace H : ((wardenlaw03_of.f a2 a3).bind fun bt549 => ((wardenlaw03_some.f t547 t548 a4).bind fun t553 => ((wardenlaw03_some.f bt549.1 bt549.2 a5).bind fun t554 => ((tnum_Has.f t547 t548 t553).bind fun t555 => (if t555 = true then ((tnum_Add.f t547 t548 bt549.1 bt549.2).bind fun bt556 => ((tnum_Has.f bt556.1 bt556.2 (IntKind.u64.wrap (t553 + t554))).bind fun t558 => (if t558 = true then ((tnum_Sub.f t547 t548 bt549.1 bt549.2).bind fun bt559 => ((tnum_Has.f bt559.1 bt559.2 (IntKind.u64.wrap (t553 - t554))).bind fun t561 => (if t561 = true then ((tnum_Mul.f k t547 t548 bt549.1 bt549.2).bind fun bt562 => ((tnum_Has.f bt562.1 bt562.2 (IntKind.u64.wrap (t553 * t554))).bind fun t564 => (wardenlaw03_TnumSound.j0 k a4 a5 t553 t554 (IntKind.u64.wrap (a6)) (!t564) t547 t548 bt549.1 bt549.2))) else (wardenlaw03_TnumSound.j0 k a4 a5 t553 t554 (IntKind.u64.wrap (a6)) true t547 t548 bt549.1 bt549.2)))) else (wardenlaw03_TnumSound.j0 k a4 a5 t553 t554 (IntKind.u64.wrap (a6)) true t547 t548 bt549.1 bt549.2)))) else (wardenlaw03_TnumSound.j0 k a4 a5 t553 t554 (IntKind.u64.wrap (a6)) true t547 t548 bt549.1 bt549.2)))))) = some r := H
  have A8 := Aside0.mk A80
  clear A80
  replace H := Option.bind_eq_some_iff.mp H
  obtain ⟨⟨t549, t550⟩, A90, H⟩ := H
  replace H : ((wardenlaw03_some.f t547 t548 a4).bind fun t553 => ((wardenlaw03_some.f t549 t550 a5).bind fun t554 => ((tnum_Has.f t547 t548 t553).bind fun t555 => (if t555 = true then ((tnum_Add.f t547 t548 t549 t550).bind fun bt556 => ((tnum_Has.f bt556.1 bt556.2 (IntKind.u64.wrap (t553 + t554))).bind fun t558 => (if t558 = true then ((tnum_Sub.f t547 t548 t549 t550).bind fun bt559 => ((tnum_Has.f bt559.1 bt559.2 (IntKind.u64.wrap (t553 - t554))).bind fun t561 => (if t561 = true then ((tnum_Mul.f k t547 t548 t549 t550).bind fun bt562 => ((tnum_Has.f bt562.1 bt562.2 (IntKind.u64.wrap (t553 * t554))).bind fun t564 => (wardenlaw03_TnumSound.j0 k a4 a5 t553 t554 (IntKind.u64.wrap (a6)) (!t564) t547 t548 t549 t550))) else (wardenlaw03_TnumSound.j0 k a4 a5 t553 t554 (IntKind.u64.wrap (a6)) true t547 t548 t549 t550)))) else (wardenlaw03_TnumSound.j0 k a4 a5 t553 t554 (IntKind.u64.wrap (a6)) true t547 t548 t549 t550)))) else (wardenlaw03_TnumSound.j0 k a4 a5 t553 t554 (IntKind.u64.wrap (a6)) true t547 t548 t549 t550))))) = some r := H
  have A9 := Aside0.mk A90
  clear A90
  replace H := Option.bind_eq_some_iff.mp H
  obtain ⟨t553, A100, H⟩ := H
  replace H : ((wardenlaw03_some.f t549 t550 a5).bind fun t554 => ((tnum_Has.f t547 t548 t553).bind fun t555 => (if t555 = true then ((tnum_Add.f t547 t548 t549 t550).bind fun bt556 => ((tnum_Has.f bt556.1 bt556.2 (IntKind.u64.wrap (t553 + t554))).bind fun t558 => (if t558 = true then ((tnum_Sub.f t547 t548 t549 t550).bind fun bt559 => ((tnum_Has.f bt559.1 bt559.2 (IntKind.u64.wrap (t553 - t554))).bind fun t561 => (if t561 = true then ((tnum_Mul.f k t547 t548 t549 t550).bind fun bt562 => ((tnum_Has.f bt562.1 bt562.2 (IntKind.u64.wrap (t553 * t554))).bind fun t564 => (wardenlaw03_TnumSound.j0 k a4 a5 t553 t554 (IntKind.u64.wrap (a6)) (!t564) t547 t548 t549 t550))) else (wardenlaw03_TnumSound.j0 k a4 a5 t553 t554 (IntKind.u64.wrap (a6)) true t547 t548 t549 t550)))) else (wardenlaw03_TnumSound.j0 k a4 a5 t553 t554 (IntKind.u64.wrap (a6)) true t547 t548 t549 t550)))) else (wardenlaw03_TnumSound.j0 k a4 a5 t553 t554 (IntKind.u64.wrap (a6)) true t547 t548 t549 t550)))) = some r := H
  have A10 := Aside0.mk A100
  clear A100
  replace H := Option.bind_eq_some_iff.mp H
  obtain ⟨t554, A110, H⟩ := H
  replace H : ((tnum_Has.f t547 t548 t553).bind fun t555 => (if t555 = true then ((tnum_Add.f t547 t548 t549 t550).bind fun bt556 => ((tnum_Has.f bt556.1 bt556.2 (IntKind.u64.wrap (t553 + t554))).bind fun t558 => (if t558 = true then ((tnum_Sub.f t547 t548 t549 t550).bind fun bt559 => ((tnum_Has.f bt559.1 bt559.2 (IntKind.u64.wrap (t553 - t554))).bind fun t561 => (if t561 = true then ((tnum_Mul.f k t547 t548 t549 t550).bind fun bt562 => ((tnum_Has.f bt562.1 bt562.2 (IntKind.u64.wrap (t553 * t554))).bind fun t564 => (wardenlaw03_TnumSound.j0 k a4 a5 t553 t554 (IntKind.u64.wrap (a6)) (!t564) t547 t548 t549 t550))) else (wardenlaw03_TnumSound.j0 k a4 a5 t553 t554 (IntKind.u64.wrap (a6)) true t547 t548 t549 t550)))) else (wardenlaw03_TnumSound.j0 k a4 a5 t553 t554 (IntKind.u64.wrap (a6)) true t547 t548 t549 t550)))) else (wardenlaw03_TnumSound.j0 k a4 a5 t553 t554 (IntKind.u64.wrap (a6)) true t547 t548 t549 t550))) = some r := H
  have A11 := Aside0.mk A110
  clear A110
  have HC12 := Aside0.mk H
  clear H
  go_enter Try.func8, Try.ntmps8
  try go_wp2_with (first | ((with_reducible refine gate_callee (f := 9) rfl ?_); refine goesL_ (some 29) rfl rfl Try.func9 (by kernel_rfl) rfl #[.int .u64 a0, .int .u64 a1] rfl (by (try simp only [List.map_toArray, List.map_cons, List.map_nil]); first | done | rfl | (simp only [List.length_drop, List.length_take]; rfl)) ?_; (with_reducible refine (wardenlaw03_of.calls a0 a1 t547 t548 _ A8.out).mono ?_); rintro e w13 ⟨rfl, hb⟩; refine ⟨_, rfl, ?_⟩; have n0_ := Aside0.mk (below_step (by repeat (first | (with_reducible first | exact HB.out | apply below_alloc | apply pw_below_drewN | apply below_drew1) | exact HB.out)) hb); clear HB; have HB := n0_; clear n0_; (try clear hb); (try clear hb2); (try clear hk); (try clear hi)) | ((with_reducible refine gate_callee (f := 9) rfl ?_); refine goesL_ (some 32) rfl rfl Try.func9 (by kernel_rfl) rfl #[.int .u64 a2, .int .u64 a3] rfl (by (try simp only [List.map_toArray, List.map_cons, List.map_nil]); first | done | rfl | (simp only [List.length_drop, List.length_take]; rfl)) ?_; (with_reducible refine (wardenlaw03_of.calls a2 a3 t549 t550 _ A9.out).mono ?_); rintro e w14 ⟨rfl, hb⟩; refine ⟨_, rfl, ?_⟩; have n0_ := Aside0.mk (below_step (by repeat (first | (with_reducible first | exact HB.out | apply below_alloc | apply pw_below_drewN | apply below_drew1) | exact HB.out)) hb); clear HB; have HB := n0_; clear n0_; (try clear hb); (try clear hb2); (try clear hk); (try clear hi)) | ((with_reducible refine gate_dst (N := 15) rfl ?_); refine box_event ?hg (N := 15) ?hd (cs := #[.int .u64 0, .int .u64 0]) (t := 24) ?hr ?_; (case hd => rfl); (case hg => rfl); (case hr => first | (go_simp; done) | (go_simp; rfl)); intro gb551 hg w15 hbox hb; have n0_ := Aside0.mk (below_step (by repeat (first | (with_reducible first | exact HB.out | apply below_alloc | apply pw_below_drewN | apply below_drew1) | exact HB.out)) hb); have n1_ := Aside0.mk (hbox); have n2_ := Aside0.mk ((by rw [hg]; exact (below_size (by repeat (first | (with_reducible first | exact HB.out | apply below_alloc | apply pw_below_drewN | apply below_drew1) | exact HB.out))) : w.heap.size ≤ gb551)); have n3_ := Aside0.mk ((by rw [hg]; exact (below_size (by repeat (first | (with_reducible first | exact HB.out | apply below_alloc | apply pw_below_drewN | apply below_drew1) | exact HB.out))) : w.heap.size ≤ gb551)); clear HB; have HB := n0_; have BK551 := n1_; have GW551 := n2_; have GE551 := n3_; clear n0_ n1_ n2_ n3_; clear hb hbox hg) | ((with_reducible refine gate_dst (N := 16) rfl ?_); refine box_event ?hg (N := 16) ?hd (cs := #[.int .u64 0, .int .u64 0]) (t := 24) ?hr ?_; (case hd => rfl); (case hg => rfl); (case hr => first | (go_simp; done) | (go_simp; rfl)); intro gb552 hg w16 hbox hb; have n0_ := Aside0.mk (blk_below (g := gb551) (o := .cells #[.int .u64 0, .int .u64 0] 24 (0, 0)) (by (with_reducible repeat (first | refine blk_drewN ?_ _ | refine blk_drew ?_ | refine blk_alloc ?_ _)); exact BK551.out) hb); have n1_ := Aside0.mk (below_step (by repeat (first | (with_reducible first | exact HB.out | apply below_alloc | apply pw_below_drewN | apply below_drew1 | refine below_set ?_ GE551.out) | exact HB.out)) hb); have n2_ := Aside0.mk (hbox); have n3_ := Aside0.mk ((by rw [hg]; exact (below_size (by repeat (first | (with_reducible first | exact HB.out | apply below_alloc | apply pw_below_drewN | apply below_drew1 | refine below_set ?_ GE551.out) | exact HB.out))) : w.heap.size ≤ gb552)); have n4_ := Aside0.mk ((by rw [hg]; exact (below_size (by repeat (first | (with_reducible first | exact HB.out | apply below_alloc | apply pw_below_drewN | apply below_drew1 | refine below_set ?_ GE551.out) | exact HB.out))) : w.heap.size ≤ gb552)); have n5_ := Aside0.mk ((by rw [hg]; exact Nat.ne_of_lt (blk_lt (g := gb551) (o := .cells #[.int .u64 0, .int .u64 0] 24 (0, 0)) (by (with_reducible repeat (first | refine blk_drewN ?_ _ | refine blk_drew ?_ | refine blk_alloc ?_ _)); exact BK551.out)) : gb551 ≠ gb552)); have n6_ := Aside0.mk ((by rw [hg]; exact Nat.ne_of_gt (blk_lt (g := gb551) (o := .cells #[.int .u64 0, .int .u64 0] 24 (0, 0)) (by (with_reducible repeat (first | refine blk_drewN ?_ _ | refine blk_drew ?_ | refine blk_alloc ?_ _)); exact BK551.out)) : gb552 ≠ gb551)); clear BK551; clear HB; have BK551 := n0_; have HB := n1_; have BK552 := n2_; have GW552 := n3_; have GE552 := n4_; have NB551_552 := n5_; have NB552_551 := n6_; clear n0_ n1_ n2_ n3_ n4_ n5_ n6_; clear hb hbox hg; have hnb17 := NB551_552.out; have hnc17 := NB552_551.out; have hcz18_0 : w16.cell? ⟨gb551, 0, none⟩ = some (.int .u64 0) := (blk_cell BK551.out 0).trans rfl; have hcz18_1 : w16.cell? ⟨gb551, 1, none⟩ = some (.int .u64 0) := (blk_cell BK551.out 1).trans rfl; have hfz18_0 := blk_frozen BK551.out 0; have hfz18_1 := blk_frozen BK551.out 1; have hcz19_0 : w16.cell? ⟨gb552, 0, none⟩ = some (.int .u64 0) := (blk_cell BK552.out 0).trans rfl; have hcz19_1 : w16.cell? ⟨gb552, 1, none⟩ = some (.int .u64 0) := (blk_cell BK552.out 1).trans rfl; have hfz19_0 := blk_frozen BK552.out 0; have hfz19_1 := blk_frozen BK552.out 1))
  have n0_ : Aside0 (((((w16.setCell ⟨gb551, 0, none⟩ (.int .u64 t547)).setCell ⟨gb551, 1, none⟩ (.int .u64 t548)).setCell ⟨gb552, 0, none⟩ (.int .u64 t549)).setCell ⟨gb552, 1, none⟩ (.int .u64 t550)).heap[gb551]? = some (.cells #[.int .u64 t547, .int .u64 t548] 24 (0, 0))) := ⟨by (with_reducible repeat (first | refine blk_drewN ?_ _ | refine blk_drew ?_ | refine blk_alloc ?_ _)); refine blk_far ?_ NB551_552.out _; (with_reducible repeat (first | refine blk_drewN ?_ _ | refine blk_drew ?_ | refine blk_alloc ?_ _)); refine blk_far ?_ NB551_552.out _; (with_reducible repeat (first | refine blk_drewN ?_ _ | refine blk_drew ?_ | refine blk_alloc ?_ _)); refine blk_put (cs := #[.int .u64 t547, .int .u64 0]) ?_ 1 _ rfl; (with_reducible repeat (first | refine blk_drewN ?_ _ | refine blk_drew ?_ | refine blk_alloc ?_ _)); refine blk_put (cs := #[.int .u64 0, .int .u64 0]) ?_ 0 _ rfl; (with_reducible repeat (first | refine blk_drewN ?_ _ | refine blk_drew ?_ | refine blk_alloc ?_ _)); exact BK551.out⟩
  have n1_ : Aside0 (((((w16.setCell ⟨gb551, 0, none⟩ (.int .u64 t547)).setCell ⟨gb551, 1, none⟩ (.int .u64 t548)).setCell ⟨gb552, 0, none⟩ (.int .u64 t549)).setCell ⟨gb552, 1, none⟩ (.int .u64 t550)).heap[gb552]? = some (.cells #[.int .u64 t549, .int .u64 t550] 24 (0, 0))) := ⟨by (with_reducible repeat (first | refine blk_drewN ?_ _ | refine blk_drew ?_ | refine blk_alloc ?_ _)); refine blk_put (cs := #[.int .u64 t549, .int .u64 0]) ?_ 1 _ rfl; (with_reducible repeat (first | refine blk_drewN ?_ _ | refine blk_drew ?_ | refine blk_alloc ?_ _)); refine blk_put (cs := #[.int .u64 0, .int .u64 0]) ?_ 0 _ rfl; (with_reducible repeat (first | refine blk_drewN ?_ _ | refine blk_drew ?_ | refine blk_alloc ?_ _)); refine blk_far ?_ NB552_551.out _; (with_reducible repeat (first | refine blk_drewN ?_ _ | refine blk_drew ?_ | refine blk_alloc ?_ _)); refine blk_far ?_ NB552_551.out _; (with_reducible repeat (first | refine blk_drewN ?_ _ | refine blk_drew ?_ | refine blk_alloc ?_ _)); exact BK552.out⟩
  have n2_ : Aside0 (Below w.heap.size w ((((w16.setCell ⟨gb551, 0, none⟩ (.int .u64 t547)).setCell ⟨gb551, 1, none⟩ (.int .u64 t548)).setCell ⟨gb552, 0, none⟩ (.int .u64 t549)).setCell ⟨gb552, 1, none⟩ (.int .u64 t550))) := ⟨by repeat (first | (with_reducible first | exact HB.out | apply below_alloc | apply pw_below_drewN | apply below_drew1 | refine below_set ?_ GE551.out | refine below_set ?_ GE552.out) | exact HB.out)⟩
  (try clear BK551)
  (try clear BK552)
  (try clear HB)
  generalize ((((w16.setCell ⟨gb551, 0, none⟩ (.int .u64 t547)).setCell ⟨gb551, 1, none⟩ (.int .u64 t548)).setCell ⟨gb552, 0, none⟩ (.int .u64 t549)).setCell ⟨gb552, 1, none⟩ (.int .u64 t550)) = w20 at n0_ n1_ n2_ ⊢
  have BK551 := n0_
  have BK552 := n1_
  have HB := n2_
  clear n0_ n1_ n2_
  have n0_ := Aside0.mk (blk_drew BK551.out)
  have n1_ := Aside0.mk (blk_drew BK552.out)
  have n2_ := Aside0.mk (below_drew1 HB.out)
  clear BK551
  clear BK552
  clear HB
  have BK551 := n0_
  have BK552 := n1_
  have HB := n2_
  clear n0_ n1_ n2_
  refine start_ (n := 8) (S := fun w' => w'.cell? ⟨gb551, 0, none⟩ = some (.int .u64 t547) ∧ w'.cell? ⟨gb551, 1, none⟩ = some (.int .u64 t548) ∧ w'.cell? ⟨gb552, 0, none⟩ = some (.int .u64 t549) ∧ w'.cell? ⟨gb552, 1, none⟩ = some (.int .u64 t550)) (ds := []) #[false, false, false, false, false, false, false, false] (by kernel_rfl) rfl rfl ⟨(blk_cell BK551.out 0).trans rfl, (blk_cell BK551.out 1).trans rfl, (blk_cell BK552.out 0).trans rfl, (blk_cell BK552.out 1).trans rfl⟩ (fun hHeld => ?_); refine with_tabW wardenlaw03_TnumSound.tab2 wardenlaw03_TnumSound.bits2 (fun HT_ HW_ => ?_)
  generalize w20.drew = w21 at BK551 BK552 HB hHeld ⊢
  refine pure_ (i := 1) (N := some 34) (v := ?_) (a' := ?_) #[false, true, false, false, false, false, false, false] rfl rfl (any_of HT_.out (by kernel_rfl)) (fun _ _ _ h => h) (Or.inl ⟨by rfl, ?_⟩) ?_ ?_
  rotate_left
  · intro w'
    go_simp
    with_reducible rfl
  rotate_left
  · simp only [Act.put, List.setIfInBounds_toArray, List.set_cons_zero, List.set_cons_succ, i64_w, i32_w]
    rfl
  refine pure_ (i := 4) (N := some 37) (v := ?_) (a' := ?_) #[false, true, false, false, true, false, false, false] rfl rfl (any_of HT_.out (by kernel_rfl)) (fun _ _ _ h => h) (Or.inl ⟨by rfl, ?_⟩) ?_ ?_
  rotate_left
  · intro w'
    go_simp
    with_reducible rfl
  rotate_left
  · simp only [Act.put, List.setIfInBounds_toArray, List.set_cons_zero, List.set_cons_succ, i64_w, i32_w]
    rfl
  refine take_ (i := 0) (N := some 33) (v := ?_) (a' := ?_) #[true, true, false, false, true, false, false, false] rfl rfl (take_ofW HT_.out HW_.out (by kernel_rfl)) (fun _ _ _ h => h) (Or.inl ⟨by rfl, ?_⟩) hHeld ?_ ?_
  rotate_left
  · rintro w' ⟨s0, s1, s2, s3⟩
    go_simp
    with_reducible rfl
  rotate_left
  · simp only [Act.put, List.setIfInBounds_toArray, List.set_cons_zero, List.set_cons_succ, i64_w, i32_w]
    rfl
  refine take_ (i := 3) (N := some 36) (v := ?_) (a' := ?_) #[true, true, false, true, true, false, false, false] rfl rfl (take_ofW HT_.out HW_.out (by kernel_rfl)) (fun _ _ _ h => h) (Or.inl ⟨by rfl, ?_⟩) hHeld ?_ ?_
  rotate_left
  · rintro w' ⟨s0, s1, s2, s3⟩
    go_simp
    with_reducible rfl
  rotate_left
  · simp only [Act.put, List.setIfInBounds_toArray, List.set_cons_zero, List.set_cons_succ, i64_w, i32_w]
    rfl
  refine one_ (i := 2) (N := some 35) #[true, true, true, true, true, false, false, false] rfl rfl (one_of HT_.out (by kernel_rfl)) (by decide) (fun K hK => ?_)
  refine goes_ Try.func38 (by kernel_rfl) rfl #[.agg #[.int .u64 t547, .int .u64 t548], .int .u64 a4] (by rfl) rfl rfl (by (try simp only [List.map_toArray, List.map_cons, List.map_nil]); first | done | rfl | (simp only [List.length_drop, List.length_take]; rfl)) ?_
  with_reducible refine (wardenlaw03_some.calls t547 t548 a4 t553 _ A10.out).mono ?_
  rintro e w22 ⟨rfl, hb⟩
  refine ⟨_, rfl, ?_⟩
  have n0_ := Aside0.mk (blk_below (g := gb551) (o := .cells #[.int .u64 t547, .int .u64 t548] 24 (0, 0)) (by (with_reducible repeat (first | refine blk_drewN ?_ _ | refine blk_drew ?_ | refine blk_alloc ?_ _)); exact BK551.out) hb)
  have n1_ := Aside0.mk (blk_below (g := gb552) (o := .cells #[.int .u64 t549, .int .u64 t550] 24 (0, 0)) (by (with_reducible repeat (first | refine blk_drewN ?_ _ | refine blk_drew ?_ | refine blk_alloc ?_ _)); exact BK552.out) hb)
  have n2_ := Aside0.mk (below_step (by repeat (first | (with_reducible first | exact HB.out | apply below_alloc | apply pw_below_drewN | apply below_drew1 | refine below_set ?_ GE551.out | refine below_set ?_ GE552.out) | exact HB.out)) hb)
  clear BK551
  clear BK552
  clear HB
  have BK551 := n0_
  have BK552 := n1_
  have HB := n2_
  clear n0_ n1_ n2_
  (try clear hb)
  (try clear hb2)
  (try clear hk)
  (try clear hi)
  refine hK.out _ _ ⟨(blk_cell BK551.out 0).trans rfl, (blk_cell BK551.out 1).trans rfl, (blk_cell BK552.out 0).trans rfl, (blk_cell BK552.out 1).trans rfl⟩ (fun hHeld => ?_)
  clear hK K
  refine norm_ (a' := ?_) ?_ ?_
  rotate_left
  · show Act.put _ (some 35) _ = _
    simp only [Act.put, List.setIfInBounds_toArray, List.set_cons_zero, List.set_cons_succ, i64_w, i32_w]
    rfl
  refine one_ (i := 5) (N := some 38) #[true, true, true, true, true, true, false, false] rfl rfl (one_of HT_.out (by kernel_rfl)) (by decide) (fun K hK => ?_)
  refine goes_ Try.func38 (by kernel_rfl) rfl #[.agg #[.int .u64 t549, .int .u64 t550], .int .u64 a5] (by rfl) rfl rfl (by (try simp only [List.map_toArray, List.map_cons, List.map_nil]); first | done | rfl | (simp only [List.length_drop, List.length_take]; rfl)) ?_
  with_reducible refine (wardenlaw03_some.calls t549 t550 a5 t554 _ A11.out).mono ?_
  rintro e w23 ⟨rfl, hb⟩
  refine ⟨_, rfl, ?_⟩
  have n0_ := Aside0.mk (blk_below (g := gb551) (o := .cells #[.int .u64 t547, .int .u64 t548] 24 (0, 0)) (by (with_reducible repeat (first | refine blk_drewN ?_ _ | refine blk_drew ?_ | refine blk_alloc ?_ _)); exact BK551.out) hb)
  have n1_ := Aside0.mk (blk_below (g := gb552) (o := .cells #[.int .u64 t549, .int .u64 t550] 24 (0, 0)) (by (with_reducible repeat (first | refine blk_drewN ?_ _ | refine blk_drew ?_ | refine blk_alloc ?_ _)); exact BK552.out) hb)
  have n2_ := Aside0.mk (below_step (by repeat (first | (with_reducible first | exact HB.out | apply below_alloc | apply pw_below_drewN | apply below_drew1 | refine below_set ?_ GE551.out | refine below_set ?_ GE552.out) | exact HB.out)) hb)
  clear BK551
  clear BK552
  clear HB
  have BK551 := n0_
  have BK552 := n1_
  have HB := n2_
  clear n0_ n1_ n2_
  (try clear hb)
  (try clear hb2)
  (try clear hk)
  (try clear hi)
  refine hK.out _ _ ⟨(blk_cell BK551.out 0).trans rfl, (blk_cell BK551.out 1).trans rfl, (blk_cell BK552.out 0).trans rfl, (blk_cell BK552.out 1).trans rfl⟩ (fun hHeld => ?_)
  clear hK K
  refine norm_ (a' := ?_) ?_ ?_
  rotate_left
  · show Act.put _ (some 38) _ = _
    simp only [Act.put, List.setIfInBounds_toArray, List.set_cons_zero, List.set_cons_succ, i64_w, i32_w]
    rfl
  refine pure_ (i := 6) (N := some 17) (v := ?_) (a' := ?_) #[true, true, true, true, true, true, true, false] rfl rfl (any_of HT_.out (by kernel_rfl)) (fun _ _ _ h => h) (Or.inl ⟨by rfl, ?_⟩) ?_ ?_
  rotate_left
  · intro w'
    go_simp
    with_reducible rfl
  rotate_left
  · simp only [Act.put, List.setIfInBounds_toArray, List.set_cons_zero, List.set_cons_succ, i64_w, i32_w]
    rfl
  refine pure_ (i := 7) (N := some 18) (v := ?_) (a' := ?_) #[true, true, true, true, true, true, true, true] rfl rfl (any_of HT_.out (by kernel_rfl)) (fun _ _ _ h => h) (Or.inl ⟨by rfl, ?_⟩) ?_ ?_
  rotate_left
  · intro w'
    go_simp
    with_reducible rfl
  rotate_left
  · simp only [Act.put, List.setIfInBounds_toArray, List.set_cons_zero, List.set_cons_succ, i64_w, i32_w]
    rfl
  refine done_ (done_of HT_.out (by kernel_rfl)) ?_
  go_upto_region 4 with (fail)
  go_cut [74] (fun v74 wc => ∃ (kq : Nat) (x74_11 : Bool), v74 = .bool x74_11 ∧ Aside0 (wardenlaw03_TnumSound.j0 kq a4 a5 t553 t554 (IntKind.u64.wrap (a6)) x74_11 t547 t548 t549 t550 = some r) ∧ Aside0 (kq ≤ k) ∧ Aside0 (wc.heap[gb551]? = some (.cells #[.int .u64 t547, .int .u64 t548] 24 (0, 0))) ∧ Aside0 (wc.heap[gb552]? = some (.cells #[.int .u64 t549, .int .u64 t550] 24 (0, 0))) ∧ Aside0 (Below w.heap.size w wc))
  case first => as_aux_lemma =>
    have H := HC12.out
    clear HC12
    replace H := Option.bind_eq_some_iff.mp H
    obtain ⟨t555, A240, H⟩ := H
    replace H : (if t555 = true then ((tnum_Add.f t547 t548 t549 t550).bind fun bt556 => ((tnum_Has.f bt556.1 bt556.2 (IntKind.u64.wrap (t553 + t554))).bind fun t558 => (if t558 = true then ((tnum_Sub.f t547 t548 t549 t550).bind fun bt559 => ((tnum_Has.f bt559.1 bt559.2 (IntKind.u64.wrap (t553 - t554))).bind fun t561 => (if t561 = true then ((tnum_Mul.f k t547 t548 t549 t550).bind fun bt562 => ((tnum_Has.f bt562.1 bt562.2 (IntKind.u64.wrap (t553 * t554))).bind fun t564 => (wardenlaw03_TnumSound.j0 k a4 a5 t553 t554 (IntKind.u64.wrap (a6)) (!t564) t547 t548 t549 t550))) else (wardenlaw03_TnumSound.j0 k a4 a5 t553 t554 (IntKind.u64.wrap (a6)) true t547 t548 t549 t550)))) else (wardenlaw03_TnumSound.j0 k a4 a5 t553 t554 (IntKind.u64.wrap (a6)) true t547 t548 t549 t550)))) else (wardenlaw03_TnumSound.j0 k a4 a5 t553 t554 (IntKind.u64.wrap (a6)) true t547 t548 t549 t550)) = some r := H
    have A24 := Aside0.mk A240
    clear A240
    by_cases c25 : t555 = true
    · subst c25
      have H1 : ((tnum_Add.f t547 t548 t549 t550).bind fun bt556 => ((tnum_Has.f bt556.1 bt556.2 (IntKind.u64.wrap (t553 + t554))).bind fun t558 => (if t558 = true then ((tnum_Sub.f t547 t548 t549 t550).bind fun bt559 => ((tnum_Has.f bt559.1 bt559.2 (IntKind.u64.wrap (t553 - t554))).bind fun t561 => (if t561 = true then ((tnum_Mul.f k t547 t548 t549 t550).bind fun bt562 => ((tnum_Has.f bt562.1 bt562.2 (IntKind.u64.wrap (t553 * t554))).bind fun t564 => (wardenlaw03_TnumSound.j0 k a4 a5 t553 t554 (IntKind.u64.wrap (a6)) (!t564) t547 t548 t549 t550))) else (wardenlaw03_TnumSound.j0 k a4 a5 t553 t554 (IntKind.u64.wrap (a6)) true t547 t548 t549 t550)))) else (wardenlaw03_TnumSound.j0 k a4 a5 t553 t554 (IntKind.u64.wrap (a6)) true t547 t548 t549 t550)))) = some r := by rw [if_pos rfl] at H; exact H
      clear H
      have H := H1
      clear H1
      replace H := Option.bind_eq_some_iff.mp H
      obtain ⟨⟨t556, t557⟩, A260, H⟩ := H
      replace H : ((tnum_Has.f t556 t557 (IntKind.u64.wrap (t553 + t554))).bind fun t558 => (if t558 = true then ((tnum_Sub.f t547 t548 t549 t550).bind fun bt559 => ((tnum_Has.f bt559.1 bt559.2 (IntKind.u64.wrap (t553 - t554))).bind fun t561 => (if t561 = true then ((tnum_Mul.f k t547 t548 t549 t550).bind fun bt562 => ((tnum_Has.f bt562.1 bt562.2 (IntKind.u64.wrap (t553 * t554))).bind fun t564 => (wardenlaw03_TnumSound.j0 k a4 a5 t553 t554 (IntKind.u64.wrap (a6)) (!t564) t547 t548 t549 t550))) else (wardenlaw03_TnumSound.j0 k a4 a5 t553 t554 (IntKind.u64.wrap (a6)) true t547 t548 t549 t550)))) else (wardenlaw03_TnumSound.j0 k a4 a5 t553 t554 (IntKind.u64.wrap (a6)) true t547 t548 t549 t550))) = some r := H
      have A26 := Aside0.mk A260
      clear A260
      replace H := Option.bind_eq_some_iff.mp H
      obtain ⟨t558, A270, H⟩ := H
      replace H : (if t558 = true then ((tnum_Sub.f t547 t548 t549 t550).bind fun bt559 => ((tnum_Has.f bt559.1 bt559.2 (IntKind.u64.wrap (t553 - t554))).bind fun t561 => (if t561 = true then ((tnum_Mul.f k t547 t548 t549 t550).bind fun bt562 => ((tnum_Has.f bt562.1 bt562.2 (IntKind.u64.wrap (t553 * t554))).bind fun t564 => (wardenlaw03_TnumSound.j0 k a4 a5 t553 t554 (IntKind.u64.wrap (a6)) (!t564) t547 t548 t549 t550))) else (wardenlaw03_TnumSound.j0 k a4 a5 t553 t554 (IntKind.u64.wrap (a6)) true t547 t548 t549 t550)))) else (wardenlaw03_TnumSound.j0 k a4 a5 t553 t554 (IntKind.u64.wrap (a6)) true t547 t548 t549 t550)) = some r := H
      have A27 := Aside0.mk A270
      clear A270
      by_cases c28 : t558 = true
      · subst c28
        have H1 : ((tnum_Sub.f t547 t548 t549 t550).bind fun bt559 => ((tnum_Has.f bt559.1 bt559.2 (IntKind.u64.wrap (t553 - t554))).bind fun t561 => (if t561 = true then ((tnum_Mul.f k t547 t548 t549 t550).bind fun bt562 => ((tnum_Has.f bt562.1 bt562.2 (IntKind.u64.wrap (t553 * t554))).bind fun t564 => (wardenlaw03_TnumSound.j0 k a4 a5 t553 t554 (IntKind.u64.wrap (a6)) (!t564) t547 t548 t549 t550))) else (wardenlaw03_TnumSound.j0 k a4 a5 t553 t554 (IntKind.u64.wrap (a6)) true t547 t548 t549 t550)))) = some r := by rw [if_pos rfl] at H; exact H
        clear H
        have H := H1
        clear H1
        replace H := Option.bind_eq_some_iff.mp H
        obtain ⟨⟨t559, t560⟩, A290, H⟩ := H
        replace H : ((tnum_Has.f t559 t560 (IntKind.u64.wrap (t553 - t554))).bind fun t561 => (if t561 = true then ((tnum_Mul.f k t547 t548 t549 t550).bind fun bt562 => ((tnum_Has.f bt562.1 bt562.2 (IntKind.u64.wrap (t553 * t554))).bind fun t564 => (wardenlaw03_TnumSound.j0 k a4 a5 t553 t554 (IntKind.u64.wrap (a6)) (!t564) t547 t548 t549 t550))) else (wardenlaw03_TnumSound.j0 k a4 a5 t553 t554 (IntKind.u64.wrap (a6)) true t547 t548 t549 t550))) = some r := H
        have A29 := Aside0.mk A290
        clear A290
        replace H := Option.bind_eq_some_iff.mp H
        obtain ⟨t561, A300, H⟩ := H
        replace H : (if t561 = true then ((tnum_Mul.f k t547 t548 t549 t550).bind fun bt562 => ((tnum_Has.f bt562.1 bt562.2 (IntKind.u64.wrap (t553 * t554))).bind fun t564 => (wardenlaw03_TnumSound.j0 k a4 a5 t553 t554 (IntKind.u64.wrap (a6)) (!t564) t547 t548 t549 t550))) else (wardenlaw03_TnumSound.j0 k a4 a5 t553 t554 (IntKind.u64.wrap (a6)) true t547 t548 t549 t550)) = some r := H
        have A30 := Aside0.mk A300
        clear A300
        by_cases c31 : t561 = true
        · subst c31
          have H1 : ((tnum_Mul.f k t547 t548 t549 t550).bind fun bt562 => ((tnum_Has.f bt562.1 bt562.2 (IntKind.u64.wrap (t553 * t554))).bind fun t564 => (wardenlaw03_TnumSound.j0 k a4 a5 t553 t554 (IntKind.u64.wrap (a6)) (!t564) t547 t548 t549 t550))) = some r := by rw [if_pos rfl] at H; exact H
          clear H
          have H := H1
          clear H1
          replace H := Option.bind_eq_some_iff.mp H
          obtain ⟨⟨t562, t563⟩, A320, H⟩ := H
          replace H : ((tnum_Has.f t562 t563 (IntKind.u64.wrap (t553 * t554))).bind fun t564 => (wardenlaw03_TnumSound.j0 k a4 a5 t553 t554 (IntKind.u64.wrap (a6)) (!t564) t547 t548 t549 t550)) = some r := H
          have A32 := Aside0.mk A320
          clear A320
          replace H := Option.bind_eq_some_iff.mp H
          obtain ⟨t564, A330, H⟩ := H
          replace H : (wardenlaw03_TnumSound.j0 k a4 a5 t553 t554 (IntKind.u64.wrap (a6)) (!t564) t547 t548 t549 t550) = some r := H
          have A33 := Aside0.mk A330
          clear A330
          have H' := Aside0.mk H
          clear H
          have hnb34 := NB551_552.out
          have hnc34 := NB552_551.out
          have hcz35_0 : w23.cell? ⟨gb551, 0, none⟩ = some (.int .u64 t547) := (blk_cell BK551.out 0).trans rfl
          have hcz35_1 : w23.cell? ⟨gb551, 1, none⟩ = some (.int .u64 t548) := (blk_cell BK551.out 1).trans rfl
          have hfz35_0 := blk_frozen BK551.out 0
          have hfz35_1 := blk_frozen BK551.out 1
          go_wp2_with (first | ((with_reducible refine gate_callee (f := 13) rfl ?_); refine goesL_ (some 43) rfl rfl Try.func13 (by kernel_rfl) rfl #[.agg #[.int .u64 t547, .int .u64 t548], .int .u64 t553] rfl (by (try simp only [List.map_toArray, List.map_cons, List.map_nil]); first | done | rfl | (simp only [List.length_drop, List.length_take]; rfl)) ?_; (with_reducible refine (tnum_Has.calls t547 t548 t553 true _ A24.out).mono ?_); rintro e w36 ⟨rfl, hb⟩; refine ⟨_, rfl, ?_⟩; have n0_ := Aside0.mk (blk_below (g := gb551) (o := .cells #[.int .u64 t547, .int .u64 t548] 24 (0, 0)) (by (with_reducible repeat (first | refine blk_drewN ?_ _ | refine blk_drew ?_ | refine blk_alloc ?_ _)); exact BK551.out) hb); have n1_ := Aside0.mk (blk_below (g := gb552) (o := .cells #[.int .u64 t549, .int .u64 t550] 24 (0, 0)) (by (with_reducible repeat (first | refine blk_drewN ?_ _ | refine blk_drew ?_ | refine blk_alloc ?_ _)); exact BK552.out) hb); have n2_ := Aside0.mk (below_step (by repeat (first | (with_reducible first | exact HB.out | apply below_alloc | apply pw_below_drewN | apply below_drew1 | refine below_set ?_ GE551.out | refine below_set ?_ GE552.out) | exact HB.out)) hb); clear BK551; clear BK552; clear HB; have BK551 := n0_; have BK552 := n1_; have HB := n2_; clear n0_ n1_ n2_; (try clear hb); (try clear hb2); (try clear hk); (try clear hi); have hcz37_0 : w36.cell? ⟨gb551, 0, none⟩ = some (.int .u64 t547) := (blk_cell BK551.out 0).trans rfl; have hcz37_1 : w36.cell? ⟨gb551, 1, none⟩ = some (.int .u64 t548) := (blk_cell BK551.out 1).trans rfl; have hfz37_0 := blk_frozen BK551.out 0; have hfz37_1 := blk_frozen BK551.out 1; have hcz38_0 : w36.cell? ⟨gb552, 0, none⟩ = some (.int .u64 t549) := (blk_cell BK552.out 0).trans rfl; have hcz38_1 : w36.cell? ⟨gb552, 1, none⟩ = some (.int .u64 t550) := (blk_cell BK552.out 1).trans rfl; have hfz38_0 := blk_frozen BK552.out 0; have hfz38_1 := blk_frozen BK552.out 1) | (go_at_call 29; (with_reducible refine (tnum_Add.calls t547 t548 t549 t550 t556 t557 _ A26.out).mono ?_); rintro e w39 ⟨rfl, hb⟩; have n0_ := Aside0.mk (blk_below (g := gb551) (o := .cells #[.int .u64 t547, .int .u64 t548] 24 (0, 0)) (by (with_reducible repeat (first | refine blk_drewN ?_ _ | refine blk_drew ?_ | refine blk_alloc ?_ _)); exact BK551.out) hb); have n1_ := Aside0.mk (blk_below (g := gb552) (o := .cells #[.int .u64 t549, .int .u64 t550] 24 (0, 0)) (by (with_reducible repeat (first | refine blk_drewN ?_ _ | refine blk_drew ?_ | refine blk_alloc ?_ _)); exact BK552.out) hb); have n2_ := Aside0.mk (below_step (by repeat (first | (with_reducible first | exact HB.out | apply below_alloc | apply pw_below_drewN | apply below_drew1 | refine below_set ?_ GE551.out | refine below_set ?_ GE552.out) | exact HB.out)) hb); clear BK551; clear BK552; clear HB; have BK551 := n0_; have BK552 := n1_; have HB := n2_; clear n0_ n1_ n2_; (try clear hb); (try clear hb2); (try clear hk); (try clear hi)) | (go_at_call 13; (with_reducible refine (tnum_Has.calls t556 t557 (IntKind.u64.wrap (t553 + t554)) true _ A27.out).mono ?_); rintro e w40 ⟨rfl, hb⟩; have n0_ := Aside0.mk (blk_below (g := gb551) (o := .cells #[.int .u64 t547, .int .u64 t548] 24 (0, 0)) (by (with_reducible repeat (first | refine blk_drewN ?_ _ | refine blk_drew ?_ | refine blk_alloc ?_ _)); exact BK551.out) hb); have n1_ := Aside0.mk (blk_below (g := gb552) (o := .cells #[.int .u64 t549, .int .u64 t550] 24 (0, 0)) (by (with_reducible repeat (first | refine blk_drewN ?_ _ | refine blk_drew ?_ | refine blk_alloc ?_ _)); exact BK552.out) hb); have n2_ := Aside0.mk (below_step (by repeat (first | (with_reducible first | exact HB.out | apply below_alloc | apply pw_below_drewN | apply below_drew1 | refine below_set ?_ GE551.out | refine below_set ?_ GE552.out) | exact HB.out)) hb); clear BK551; clear BK552; clear HB; have BK551 := n0_; have BK552 := n1_; have HB := n2_; clear n0_ n1_ n2_; (try clear hb); (try clear hb2); (try clear hk); (try clear hi); have hcz41_0 : w40.cell? ⟨gb551, 0, none⟩ = some (.int .u64 t547) := (blk_cell BK551.out 0).trans rfl; have hcz41_1 : w40.cell? ⟨gb551, 1, none⟩ = some (.int .u64 t548) := (blk_cell BK551.out 1).trans rfl; have hfz41_0 := blk_frozen BK551.out 0; have hfz41_1 := blk_frozen BK551.out 1; have hcz42_0 : w40.cell? ⟨gb552, 0, none⟩ = some (.int .u64 t549) := (blk_cell BK552.out 0).trans rfl; have hcz42_1 : w40.cell? ⟨gb552, 1, none⟩ = some (.int .u64 t550) := (blk_cell BK552.out 1).trans rfl; have hfz42_0 := blk_frozen BK552.out 0; have hfz42_1 := blk_frozen BK552.out 1) | (go_at_call 31; (with_reducible refine (tnum_Sub.calls t547 t548 t549 t550 t559 t560 _ A29.out).mono ?_); rintro e w43 ⟨rfl, hb⟩; have n0_ := Aside0.mk (blk_below (g := gb551) (o := .cells #[.int .u64 t547, .int .u64 t548] 24 (0, 0)) (by (with_reducible repeat (first | refine blk_drewN ?_ _ | refine blk_drew ?_ | refine blk_alloc ?_ _)); exact BK551.out) hb); have n1_ := Aside0.mk (blk_below (g := gb552) (o := .cells #[.int .u64 t549, .int .u64 t550] 24 (0, 0)) (by (with_reducible repeat (first | refine blk_drewN ?_ _ | refine blk_drew ?_ | refine blk_alloc ?_ _)); exact BK552.out) hb); have n2_ := Aside0.mk (below_step (by repeat (first | (with_reducible first | exact HB.out | apply below_alloc | apply pw_below_drewN | apply below_drew1 | refine below_set ?_ GE551.out | refine below_set ?_ GE552.out) | exact HB.out)) hb); clear BK551; clear BK552; clear HB; have BK551 := n0_; have BK552 := n1_; have HB := n2_; clear n0_ n1_ n2_; (try clear hb); (try clear hb2); (try clear hk); (try clear hi)) | (go_at_call 13; (with_reducible refine (tnum_Has.calls t559 t560 (IntKind.u64.wrap (t553 - t554)) true _ A30.out).mono ?_); rintro e w44 ⟨rfl, hb⟩; have n0_ := Aside0.mk (blk_below (g := gb551) (o := .cells #[.int .u64 t547, .int .u64 t548] 24 (0, 0)) (by (with_reducible repeat (first | refine blk_drewN ?_ _ | refine blk_drew ?_ | refine blk_alloc ?_ _)); exact BK551.out) hb); have n1_ := Aside0.mk (blk_below (g := gb552) (o := .cells #[.int .u64 t549, .int .u64 t550] 24 (0, 0)) (by (with_reducible repeat (first | refine blk_drewN ?_ _ | refine blk_drew ?_ | refine blk_alloc ?_ _)); exact BK552.out) hb); have n2_ := Aside0.mk (below_step (by repeat (first | (with_reducible first | exact HB.out | apply below_alloc | apply pw_below_drewN | apply below_drew1 | refine below_set ?_ GE551.out | refine below_set ?_ GE552.out) | exact HB.out)) hb); clear BK551; clear BK552; clear HB; have BK551 := n0_; have BK552 := n1_; have HB := n2_; clear n0_ n1_ n2_; (try clear hb); (try clear hb2); (try clear hk); (try clear hi); have hcz45_0 : w44.cell? ⟨gb551, 0, none⟩ = some (.int .u64 t547) := (blk_cell BK551.out 0).trans rfl; have hcz45_1 : w44.cell? ⟨gb551, 1, none⟩ = some (.int .u64 t548) := (blk_cell BK551.out 1).trans rfl; have hfz45_0 := blk_frozen BK551.out 0; have hfz45_1 := blk_frozen BK551.out 1; have hcz46_0 : w44.cell? ⟨gb552, 0, none⟩ = some (.int .u64 t549) := (blk_cell BK552.out 0).trans rfl; have hcz46_1 : w44.cell? ⟨gb552, 1, none⟩ = some (.int .u64 t550) := (blk_cell BK552.out 1).trans rfl; have hfz46_0 := blk_frozen BK552.out 0; have hfz46_1 := blk_frozen BK552.out 1) | (go_at_call 33; (with_reducible refine (tnum_Mul.calls k t547 t548 t549 t550 t562 t563 _ A32.out).mono ?_); rintro e w47 ⟨rfl, hb⟩; have n0_ := Aside0.mk (blk_below (g := gb551) (o := .cells #[.int .u64 t547, .int .u64 t548] 24 (0, 0)) (by (with_reducible repeat (first | refine blk_drewN ?_ _ | refine blk_drew ?_ | refine blk_alloc ?_ _)); exact BK551.out) hb); have n1_ := Aside0.mk (blk_below (g := gb552) (o := .cells #[.int .u64 t549, .int .u64 t550] 24 (0, 0)) (by (with_reducible repeat (first | refine blk_drewN ?_ _ | refine blk_drew ?_ | refine blk_alloc ?_ _)); exact BK552.out) hb); have n2_ := Aside0.mk (below_step (by repeat (first | (with_reducible first | exact HB.out | apply below_alloc | apply pw_below_drewN | apply below_drew1 | refine below_set ?_ GE551.out | refine below_set ?_ GE552.out) | exact HB.out)) hb); clear BK551; clear BK552; clear HB; have BK551 := n0_; have BK552 := n1_; have HB := n2_; clear n0_ n1_ n2_; (try clear hb); (try clear hb2); (try clear hk); (try clear hi)) | (go_at_call 13; (with_reducible refine (tnum_Has.calls t562 t563 (IntKind.u64.wrap (t553 * t554)) t564 _ A33.out).mono ?_); rintro e w48 ⟨rfl, hb⟩; have n0_ := Aside0.mk (blk_below (g := gb551) (o := .cells #[.int .u64 t547, .int .u64 t548] 24 (0, 0)) (by (with_reducible repeat (first | refine blk_drewN ?_ _ | refine blk_drew ?_ | refine blk_alloc ?_ _)); exact BK551.out) hb); have n1_ := Aside0.mk (blk_below (g := gb552) (o := .cells #[.int .u64 t549, .int .u64 t550] 24 (0, 0)) (by (with_reducible repeat (first | refine blk_drewN ?_ _ | refine blk_drew ?_ | refine blk_alloc ?_ _)); exact BK552.out) hb); have n2_ := Aside0.mk (below_step (by repeat (first | (with_reducible first | exact HB.out | apply below_alloc | apply pw_below_drewN | apply below_drew1 | refine below_set ?_ GE551.out | refine below_set ?_ GE552.out) | exact HB.out)) hb); clear BK551; clear BK552; clear HB; have BK551 := n0_; have BK552 := n1_; have HB := n2_; clear n0_ n1_ n2_; (try clear hb); (try clear hb2); (try clear hk); (try clear hi)))
          go_meet
          case rel => exact ⟨_, (!t564), (by first | rfl | (simp; done) | (simp [*]; done)), H', ⟨by first | omega | exact Nat.le_refl _⟩, ⟨by (with_reducible repeat (first | refine blk_drewN ?_ _ | refine blk_drew ?_ | refine blk_alloc ?_ _)); exact BK551.out⟩, ⟨by (with_reducible repeat (first | refine blk_drewN ?_ _ | refine blk_drew ?_ | refine blk_alloc ?_ _)); exact BK552.out⟩, ⟨by repeat (first | (with_reducible first | exact HB.out | apply below_alloc | apply pw_below_drewN | apply below_drew1 | refine below_set ?_ GE551.out | refine below_set ?_ GE552.out) | exact HB.out)⟩⟩
        · replace c31 := Bool.eq_false_iff.mpr c31
          subst c31
          have H1 : (wardenlaw03_TnumSound.j0 k a4 a5 t553 t554 (IntKind.u64.wrap (a6)) true t547 t548 t549 t550) = some r := by rw [if_neg (show ¬ (false = true) by decide)] at H; exact H
          clear H
          have H := H1
          clear H1
          have H' := Aside0.mk H
          clear H
          have hnb49 := NB551_552.out
          have hnc49 := NB552_551.out
          have hcz50_0 : w23.cell? ⟨gb551, 0, none⟩ = some (.int .u64 t547) := (blk_cell BK551.out 0).trans rfl
          have hcz50_1 : w23.cell? ⟨gb551, 1, none⟩ = some (.int .u64 t548) := (blk_cell BK551.out 1).trans rfl
          have hfz50_0 := blk_frozen BK551.out 0
          have hfz50_1 := blk_frozen BK551.out 1
          go_wp2_with (first | ((with_reducible refine gate_callee (f := 13) rfl ?_); refine goesL_ (some 43) rfl rfl Try.func13 (by kernel_rfl) rfl #[.agg #[.int .u64 t547, .int .u64 t548], .int .u64 t553] rfl (by (try simp only [List.map_toArray, List.map_cons, List.map_nil]); first | done | rfl | (simp only [List.length_drop, List.length_take]; rfl)) ?_; (with_reducible refine (tnum_Has.calls t547 t548 t553 true _ A24.out).mono ?_); rintro e w51 ⟨rfl, hb⟩; refine ⟨_, rfl, ?_⟩; have n0_ := Aside0.mk (blk_below (g := gb551) (o := .cells #[.int .u64 t547, .int .u64 t548] 24 (0, 0)) (by (with_reducible repeat (first | refine blk_drewN ?_ _ | refine blk_drew ?_ | refine blk_alloc ?_ _)); exact BK551.out) hb); have n1_ := Aside0.mk (blk_below (g := gb552) (o := .cells #[.int .u64 t549, .int .u64 t550] 24 (0, 0)) (by (with_reducible repeat (first | refine blk_drewN ?_ _ | refine blk_drew ?_ | refine blk_alloc ?_ _)); exact BK552.out) hb); have n2_ := Aside0.mk (below_step (by repeat (first | (with_reducible first | exact HB.out | apply below_alloc | apply pw_below_drewN | apply below_drew1 | refine below_set ?_ GE551.out | refine below_set ?_ GE552.out) | exact HB.out)) hb); clear BK551; clear BK552; clear HB; have BK551 := n0_; have BK552 := n1_; have HB := n2_; clear n0_ n1_ n2_; (try clear hb); (try clear hb2); (try clear hk); (try clear hi); have hcz52_0 : w51.cell? ⟨gb551, 0, none⟩ = some (.int .u64 t547) := (blk_cell BK551.out 0).trans rfl; have hcz52_1 : w51.cell? ⟨gb551, 1, none⟩ = some (.int .u64 t548) := (blk_cell BK551.out 1).trans rfl; have hfz52_0 := blk_frozen BK551.out 0; have hfz52_1 := blk_frozen BK551.out 1; have hcz53_0 : w51.cell? ⟨gb552, 0, none⟩ = some (.int .u64 t549) := (blk_cell BK552.out 0).trans rfl; have hcz53_1 : w51.cell? ⟨gb552, 1, none⟩ = some (.int .u64 t550) := (blk_cell BK552.out 1).trans rfl; have hfz53_0 := blk_frozen BK552.out 0; have hfz53_1 := blk_frozen BK552.out 1) | (go_at_call 29; (with_reducible refine (tnum_Add.calls t547 t548 t549 t550 t556 t557 _ A26.out).mono ?_); rintro e w54 ⟨rfl, hb⟩; have n0_ := Aside0.mk (blk_below (g := gb551) (o := .cells #[.int .u64 t547, .int .u64 t548] 24 (0, 0)) (by (with_reducible repeat (first | refine blk_drewN ?_ _ | refine blk_drew ?_ | refine blk_alloc ?_ _)); exact BK551.out) hb); have n1_ := Aside0.mk (blk_below (g := gb552) (o := .cells #[.int .u64 t549, .int .u64 t550] 24 (0, 0)) (by (with_reducible repeat (first | refine blk_drewN ?_ _ | refine blk_drew ?_ | refine blk_alloc ?_ _)); exact BK552.out) hb); have n2_ := Aside0.mk (below_step (by repeat (first | (with_reducible first | exact HB.out | apply below_alloc | apply pw_below_drewN | apply below_drew1 | refine below_set ?_ GE551.out | refine below_set ?_ GE552.out) | exact HB.out)) hb); clear BK551; clear BK552; clear HB; have BK551 := n0_; have BK552 := n1_; have HB := n2_; clear n0_ n1_ n2_; (try clear hb); (try clear hb2); (try clear hk); (try clear hi)) | (go_at_call 13; (with_reducible refine (tnum_Has.calls t556 t557 (IntKind.u64.wrap (t553 + t554)) true _ A27.out).mono ?_); rintro e w55 ⟨rfl, hb⟩; have n0_ := Aside0.mk (blk_below (g := gb551) (o := .cells #[.int .u64 t547, .int .u64 t548] 24 (0, 0)) (by (with_reducible repeat (first | refine blk_drewN ?_ _ | refine blk_drew ?_ | refine blk_alloc ?_ _)); exact BK551.out) hb); have n1_ := Aside0.mk (blk_below (g := gb552) (o := .cells #[.int .u64 t549, .int .u64 t550] 24 (0, 0)) (by (with_reducible repeat (first | refine blk_drewN ?_ _ | refine blk_drew ?_ | refine blk_alloc ?_ _)); exact BK552.out) hb); have n2_ := Aside0.mk (below_step (by repeat (first | (with_reducible first | exact HB.out | apply below_alloc | apply pw_below_drewN | apply below_drew1 | refine below_set ?_ GE551.out | refine below_set ?_ GE552.out) | exact HB.out)) hb); clear BK551; clear BK552; clear HB; have BK551 := n0_; have BK552 := n1_; have HB := n2_; clear n0_ n1_ n2_; (try clear hb); (try clear hb2); (try clear hk); (try clear hi); have hcz56_0 : w55.cell? ⟨gb551, 0, none⟩ = some (.int .u64 t547) := (blk_cell BK551.out 0).trans rfl; have hcz56_1 : w55.cell? ⟨gb551, 1, none⟩ = some (.int .u64 t548) := (blk_cell BK551.out 1).trans rfl; have hfz56_0 := blk_frozen BK551.out 0; have hfz56_1 := blk_frozen BK551.out 1; have hcz57_0 : w55.cell? ⟨gb552, 0, none⟩ = some (.int .u64 t549) := (blk_cell BK552.out 0).trans rfl; have hcz57_1 : w55.cell? ⟨gb552, 1, none⟩ = some (.int .u64 t550) := (blk_cell BK552.out 1).trans rfl; have hfz57_0 := blk_frozen BK552.out 0; have hfz57_1 := blk_frozen BK552.out 1) | (go_at_call 31; (with_reducible refine (tnum_Sub.calls t547 t548 t549 t550 t559 t560 _ A29.out).mono ?_); rintro e w58 ⟨rfl, hb⟩; have n0_ := Aside0.mk (blk_below (g := gb551) (o := .cells #[.int .u64 t547, .int .u64 t548] 24 (0, 0)) (by (with_reducible repeat (first | refine blk_drewN ?_ _ | refine blk_drew ?_ | refine blk_alloc ?_ _)); exact BK551.out) hb); have n1_ := Aside0.mk (blk_below (g := gb552) (o := .cells #[.int .u64 t549, .int .u64 t550] 24 (0, 0)) (by (with_reducible repeat (first | refine blk_drewN ?_ _ | refine blk_drew ?_ | refine blk_alloc ?_ _)); exact BK552.out) hb); have n2_ := Aside0.mk (below_step (by repeat (first | (with_reducible first | exact HB.out | apply below_alloc | apply pw_below_drewN | apply below_drew1 | refine below_set ?_ GE551.out | refine below_set ?_ GE552.out) | exact HB.out)) hb); clear BK551; clear BK552; clear HB; have BK551 := n0_; have BK552 := n1_; have HB := n2_; clear n0_ n1_ n2_; (try clear hb); (try clear hb2); (try clear hk); (try clear hi)) | (go_at_call 13; (with_reducible refine (tnum_Has.calls t559 t560 (IntKind.u64.wrap (t553 - t554)) false _ A30.out).mono ?_); rintro e w59 ⟨rfl, hb⟩; have n0_ := Aside0.mk (blk_below (g := gb551) (o := .cells #[.int .u64 t547, .int .u64 t548] 24 (0, 0)) (by (with_reducible repeat (first | refine blk_drewN ?_ _ | refine blk_drew ?_ | refine blk_alloc ?_ _)); exact BK551.out) hb); have n1_ := Aside0.mk (blk_below (g := gb552) (o := .cells #[.int .u64 t549, .int .u64 t550] 24 (0, 0)) (by (with_reducible repeat (first | refine blk_drewN ?_ _ | refine blk_drew ?_ | refine blk_alloc ?_ _)); exact BK552.out) hb); have n2_ := Aside0.mk (below_step (by repeat (first | (with_reducible first | exact HB.out | apply below_alloc | apply pw_below_drewN | apply below_drew1 | refine below_set ?_ GE551.out | refine below_set ?_ GE552.out) | exact HB.out)) hb); clear BK551; clear BK552; clear HB; have BK551 := n0_; have BK552 := n1_; have HB := n2_; clear n0_ n1_ n2_; (try clear hb); (try clear hb2); (try clear hk); (try clear hi)))
          go_meet
          case rel => exact ⟨_, (true), (by first | rfl | (simp; done) | (simp [*]; done)), H', ⟨by first | omega | exact Nat.le_refl _⟩, ⟨by (with_reducible repeat (first | refine blk_drewN ?_ _ | refine blk_drew ?_ | refine blk_alloc ?_ _)); exact BK551.out⟩, ⟨by (with_reducible repeat (first | refine blk_drewN ?_ _ | refine blk_drew ?_ | refine blk_alloc ?_ _)); exact BK552.out⟩, ⟨by repeat (first | (with_reducible first | exact HB.out | apply below_alloc | apply pw_below_drewN | apply below_drew1 | refine below_set ?_ GE551.out | refine below_set ?_ GE552.out) | exact HB.out)⟩⟩
      · replace c28 := Bool.eq_false_iff.mpr c28
        subst c28
        have H1 : (wardenlaw03_TnumSound.j0 k a4 a5 t553 t554 (IntKind.u64.wrap (a6)) true t547 t548 t549 t550) = some r := by rw [if_neg (show ¬ (false = true) by decide)] at H; exact H
        clear H
        have H := H1
        clear H1
        have H' := Aside0.mk H
        clear H
        have hnb60 := NB551_552.out
        have hnc60 := NB552_551.out
        have hcz61_0 : w23.cell? ⟨gb551, 0, none⟩ = some (.int .u64 t547) := (blk_cell BK551.out 0).trans rfl
        have hcz61_1 : w23.cell? ⟨gb551, 1, none⟩ = some (.int .u64 t548) := (blk_cell BK551.out 1).trans rfl
        have hfz61_0 := blk_frozen BK551.out 0
        have hfz61_1 := blk_frozen BK551.out 1
        go_wp2_with (first | ((with_reducible refine gate_callee (f := 13) rfl ?_); refine goesL_ (some 43) rfl rfl Try.func13 (by kernel_rfl) rfl #[.agg #[.int .u64 t547, .int .u64 t548], .int .u64 t553] rfl (by (try simp only [List.map_toArray, List.map_cons, List.map_nil]); first | done | rfl | (simp only [List.length_drop, List.length_take]; rfl)) ?_; (with_reducible refine (tnum_Has.calls t547 t548 t553 true _ A24.out).mono ?_); rintro e w62 ⟨rfl, hb⟩; refine ⟨_, rfl, ?_⟩; have n0_ := Aside0.mk (blk_below (g := gb551) (o := .cells #[.int .u64 t547, .int .u64 t548] 24 (0, 0)) (by (with_reducible repeat (first | refine blk_drewN ?_ _ | refine blk_drew ?_ | refine blk_alloc ?_ _)); exact BK551.out) hb); have n1_ := Aside0.mk (blk_below (g := gb552) (o := .cells #[.int .u64 t549, .int .u64 t550] 24 (0, 0)) (by (with_reducible repeat (first | refine blk_drewN ?_ _ | refine blk_drew ?_ | refine blk_alloc ?_ _)); exact BK552.out) hb); have n2_ := Aside0.mk (below_step (by repeat (first | (with_reducible first | exact HB.out | apply below_alloc | apply pw_below_drewN | apply below_drew1 | refine below_set ?_ GE551.out | refine below_set ?_ GE552.out) | exact HB.out)) hb); clear BK551; clear BK552; clear HB; have BK551 := n0_; have BK552 := n1_; have HB := n2_; clear n0_ n1_ n2_; (try clear hb); (try clear hb2); (try clear hk); (try clear hi); have hcz63_0 : w62.cell? ⟨gb551, 0, none⟩ = some (.int .u64 t547) := (blk_cell BK551.out 0).trans rfl; have hcz63_1 : w62.cell? ⟨gb551, 1, none⟩ = some (.int .u64 t548) := (blk_cell BK551.out 1).trans rfl; have hfz63_0 := blk_frozen BK551.out 0; have hfz63_1 := blk_frozen BK551.out 1; have hcz64_0 : w62.cell? ⟨gb552, 0, none⟩ = some (.int .u64 t549) := (blk_cell BK552.out 0).trans rfl; have hcz64_1 : w62.cell? ⟨gb552, 1, none⟩ = some (.int .u64 t550) := (blk_cell BK552.out 1).trans rfl; have hfz64_0 := blk_frozen BK552.out 0; have hfz64_1 := blk_frozen BK552.out 1) | (go_at_call 29; (with_reducible refine (tnum_Add.calls t547 t548 t549 t550 t556 t557 _ A26.out).mono ?_); rintro e w65 ⟨rfl, hb⟩; have n0_ := Aside0.mk (blk_below (g := gb551) (o := .cells #[.int .u64 t547, .int .u64 t548] 24 (0, 0)) (by (with_reducible repeat (first | refine blk_drewN ?_ _ | refine blk_drew ?_ | refine blk_alloc ?_ _)); exact BK551.out) hb); have n1_ := Aside0.mk (blk_below (g := gb552) (o := .cells #[.int .u64 t549, .int .u64 t550] 24 (0, 0)) (by (with_reducible repeat (first | refine blk_drewN ?_ _ | refine blk_drew ?_ | refine blk_alloc ?_ _)); exact BK552.out) hb); have n2_ := Aside0.mk (below_step (by repeat (first | (with_reducible first | exact HB.out | apply below_alloc | apply pw_below_drewN | apply below_drew1 | refine below_set ?_ GE551.out | refine below_set ?_ GE552.out) | exact HB.out)) hb); clear BK551; clear BK552; clear HB; have BK551 := n0_; have BK552 := n1_; have HB := n2_; clear n0_ n1_ n2_; (try clear hb); (try clear hb2); (try clear hk); (try clear hi)) | (go_at_call 13; (with_reducible refine (tnum_Has.calls t556 t557 (IntKind.u64.wrap (t553 + t554)) false _ A27.out).mono ?_); rintro e w66 ⟨rfl, hb⟩; have n0_ := Aside0.mk (blk_below (g := gb551) (o := .cells #[.int .u64 t547, .int .u64 t548] 24 (0, 0)) (by (with_reducible repeat (first | refine blk_drewN ?_ _ | refine blk_drew ?_ | refine blk_alloc ?_ _)); exact BK551.out) hb); have n1_ := Aside0.mk (blk_below (g := gb552) (o := .cells #[.int .u64 t549, .int .u64 t550] 24 (0, 0)) (by (with_reducible repeat (first | refine blk_drewN ?_ _ | refine blk_drew ?_ | refine blk_alloc ?_ _)); exact BK552.out) hb); have n2_ := Aside0.mk (below_step (by repeat (first | (with_reducible first | exact HB.out | apply below_alloc | apply pw_below_drewN | apply below_drew1 | refine below_set ?_ GE551.out | refine below_set ?_ GE552.out) | exact HB.out)) hb); clear BK551; clear BK552; clear HB; have BK551 := n0_; have BK552 := n1_; have HB := n2_; clear n0_ n1_ n2_; (try clear hb); (try clear hb2); (try clear hk); (try clear hi)))
        go_meet
        case rel => exact ⟨_, (true), (by first | rfl | (simp; done) | (simp [*]; done)), H', ⟨by first | omega | exact Nat.le_refl _⟩, ⟨by (with_reducible repeat (first | refine blk_drewN ?_ _ | refine blk_drew ?_ | refine blk_alloc ?_ _)); exact BK551.out⟩, ⟨by (with_reducible repeat (first | refine blk_drewN ?_ _ | refine blk_drew ?_ | refine blk_alloc ?_ _)); exact BK552.out⟩, ⟨by repeat (first | (with_reducible first | exact HB.out | apply below_alloc | apply pw_below_drewN | apply below_drew1 | refine below_set ?_ GE551.out | refine below_set ?_ GE552.out) | exact HB.out)⟩⟩
    · replace c25 := Bool.eq_false_iff.mpr c25
      subst c25
      have H1 : (wardenlaw03_TnumSound.j0 k a4 a5 t553 t554 (IntKind.u64.wrap (a6)) true t547 t548 t549 t550) = some r := by rw [if_neg (show ¬ (false = true) by decide)] at H; exact H
      clear H
      have H := H1
      clear H1
      have H' := Aside0.mk H
      clear H
      have hnb67 := NB551_552.out
      have hnc67 := NB552_551.out
      have hcz68_0 : w23.cell? ⟨gb551, 0, none⟩ = some (.int .u64 t547) := (blk_cell BK551.out 0).trans rfl
      have hcz68_1 : w23.cell? ⟨gb551, 1, none⟩ = some (.int .u64 t548) := (blk_cell BK551.out 1).trans rfl
      have hfz68_0 := blk_frozen BK551.out 0
      have hfz68_1 := blk_frozen BK551.out 1
      go_wp2_with (first | ((with_reducible refine gate_callee (f := 13) rfl ?_); refine goesL_ (some 43) rfl rfl Try.func13 (by kernel_rfl) rfl #[.agg #[.int .u64 t547, .int .u64 t548], .int .u64 t553] rfl (by (try simp only [List.map_toArray, List.map_cons, List.map_nil]); first | done | rfl | (simp only [List.length_drop, List.length_take]; rfl)) ?_; (with_reducible refine (tnum_Has.calls t547 t548 t553 false _ A24.out).mono ?_); rintro e w69 ⟨rfl, hb⟩; refine ⟨_, rfl, ?_⟩; have n0_ := Aside0.mk (blk_below (g := gb551) (o := .cells #[.int .u64 t547, .int .u64 t548] 24 (0, 0)) (by (with_reducible repeat (first | refine blk_drewN ?_ _ | refine blk_drew ?_ | refine blk_alloc ?_ _)); exact BK551.out) hb); have n1_ := Aside0.mk (blk_below (g := gb552) (o := .cells #[.int .u64 t549, .int .u64 t550] 24 (0, 0)) (by (with_reducible repeat (first | refine blk_drewN ?_ _ | refine blk_drew ?_ | refine blk_alloc ?_ _)); exact BK552.out) hb); have n2_ := Aside0.mk (below_step (by repeat (first | (with_reducible first | exact HB.out | apply below_alloc | apply pw_below_drewN | apply below_drew1 | refine below_set ?_ GE551.out | refine below_set ?_ GE552.out) | exact HB.out)) hb); clear BK551; clear BK552; clear HB; have BK551 := n0_; have BK552 := n1_; have HB := n2_; clear n0_ n1_ n2_; (try clear hb); (try clear hb2); (try clear hk); (try clear hi)))
      go_meet
      case rel => exact ⟨_, (true), (by first | rfl | (simp; done) | (simp [*]; done)), H', ⟨by first | omega | exact Nat.le_refl _⟩, ⟨by (with_reducible repeat (first | refine blk_drewN ?_ _ | refine blk_drew ?_ | refine blk_alloc ?_ _)); exact BK551.out⟩, ⟨by (with_reducible repeat (first | refine blk_drewN ?_ _ | refine blk_drew ?_ | refine blk_alloc ?_ _)); exact BK552.out⟩, ⟨by repeat (first | (with_reducible first | exact HB.out | apply below_alloc | apply pw_below_drewN | apply below_drew1 | refine below_set ?_ GE551.out | refine below_set ?_ GE552.out) | exact HB.out)⟩⟩
  case rest => as_aux_lemma =>
    clear HC12
    try clear c1
    try clear c2
    try clear p2
    try clear c3
    try clear c4
    try clear c6
    try clear c8
    try clear c9
    try clear c13
    try clear c17
    try clear c25
    try clear c28
    try clear c31
    try clear c34
    try clear c38
    try clear c49
    try clear c60
    try clear c67
    try clear hcz18_0
    try clear hcz18_1
    try clear hcz19_0
    try clear hcz19_1
    try clear hcz35_0
    try clear hcz35_1
    try clear hcz37_0
    try clear hcz37_1
    try clear hcz38_0
    try clear hcz38_1
    try clear hcz41_0
    try clear hcz41_1
    try clear hcz42_0
    try clear hcz42_1
    try clear hcz45_0
    try clear hcz45_1
    try clear hcz46_0
    try clear hcz46_1
    try clear hcz50_0
    try clear hcz50_1
    try clear hcz52_0
    try clear hcz52_1
    try clear hcz53_0
    try clear hcz53_1
    try clear hcz56_0
    try clear hcz56_1
    try clear hcz57_0
    try clear hcz57_1
    try clear hcz61_0
    try clear hcz61_1
    try clear hcz63_0
    try clear hcz63_1
    try clear hcz64_0
    try clear hcz64_1
    try clear hcz68_0
    try clear hcz68_1
    try clear hfz18_0
    try clear hfz18_1
    try clear hfz19_0
    try clear hfz19_1
    try clear hfz35_0
    try clear hfz35_1
    try clear hfz37_0
    try clear hfz37_1
    try clear hfz38_0
    try clear hfz38_1
    try clear hfz41_0
    try clear hfz41_1
    try clear hfz42_0
    try clear hfz42_1
    try clear hfz45_0
    try clear hfz45_1
    try clear hfz46_0
    try clear hfz46_1
    try clear hfz50_0
    try clear hfz50_1
    try clear hfz52_0
    try clear hfz52_1
    try clear hfz53_0
    try clear hfz53_1
    try clear hfz56_0
    try clear hfz56_1
    try clear hfz57_0
    try clear hfz57_1
    try clear hfz61_0
    try clear hfz61_1
    try clear hfz63_0
    try clear hfz63_1
    try clear hfz64_0
    try clear hfz64_1
    try clear hfz68_0
    try clear hfz68_1
    obtain ⟨kq, x74_11, rfl, HA, HJ11, BK551, BK552, HB⟩ := hcut
    cases kq with
    | zero => exact absurd HA.out (by simp [wardenlaw03_TnumSound.j0])
    | succ kj11 =>
      have H := HA.out
      clear HA
      simp only [wardenlaw03_TnumSound.j0] at H
      by_cases c70 : x74_11 = true
      · subst c70
        have H1 : (some false) = some r := by rw [if_pos rfl] at H; exact H
        clear H
        have H := H1
        clear H1
        obtain rfl := Option.some.inj H
        go_wp2
        go_ret
        exact ⟨by first | rfl | (simp [errW_none, errW_some] <;> rfl) | (simp [*, errW_none, errW_some] <;> rfl), by repeat (first | (with_reducible first | exact HB.out | apply below_alloc | apply pw_below_drewN | apply below_drew1 | refine below_set ?_ GE551.out | refine below_set ?_ GE552.out) | exact HB.out)⟩
      · replace c70 := Bool.eq_false_iff.mpr c70
        subst c70
        have H1 : ((tnum_And.f t547 t548 t549 t550).bind fun bt565 => ((tnum_Has.f bt565.1 bt565.2 (Go.bits .and .u64 t553 t554)).bind fun t567 => (if t567 = true then ((tnum_Or.f t547 t548 t549 t550).bind fun bt568 => ((tnum_Has.f bt568.1 bt568.2 (Go.bits .or .u64 t553 t554)).bind fun t570 => (if t570 = true then ((tnum_Xor.f t547 t548 t549 t550).bind fun bt571 => ((tnum_Has.f bt571.1 bt571.2 (Go.bits .xor .u64 t553 t554)).bind fun t573 => (if t573 = true then ((tnum_Join.f t547 t548 t549 t550).bind fun bt574 => ((tnum_Has.f bt574.1 bt574.2 t553).bind fun t576 => (if t576 = true then ((tnum_Join.f t547 t548 t549 t550).bind fun bt577 => ((tnum_Has.f bt577.1 bt577.2 t554).bind fun t579 => (wardenlaw03_TnumSound.j1 kj11 a4 a5 t553 (IntKind.u64.wrap (a6)) (!t579) t547 t548 t549 t550))) else (wardenlaw03_TnumSound.j1 kj11 a4 a5 t553 (IntKind.u64.wrap (a6)) true t547 t548 t549 t550)))) else (wardenlaw03_TnumSound.j1 kj11 a4 a5 t553 (IntKind.u64.wrap (a6)) true t547 t548 t549 t550)))) else (wardenlaw03_TnumSound.j1 kj11 a4 a5 t553 (IntKind.u64.wrap (a6)) true t547 t548 t549 t550)))) else (wardenlaw03_TnumSound.j1 kj11 a4 a5 t553 (IntKind.u64.wrap (a6)) true t547 t548 t549 t550)))) = some r := by rw [if_neg (show ¬ (false = true) by decide)] at H; exact H
        clear H
        have H := H1
        clear H1
        have HC71 := Aside0.mk H
        clear H
        go_upto_region 6 with (fail)
        go_cut [118] (fun v118 wc => ∃ (kq : Nat) (x118_70 : Bool), v118 = .bool x118_70 ∧ Aside0 (wardenlaw03_TnumSound.j1 kq a4 a5 t553 (IntKind.u64.wrap (a6)) x118_70 t547 t548 t549 t550 = some r) ∧ Aside0 (kq ≤ kj11) ∧ Aside0 (wc.heap[gb551]? = some (.cells #[.int .u64 t547, .int .u64 t548] 24 (0, 0))) ∧ Aside0 (wc.heap[gb552]? = some (.cells #[.int .u64 t549, .int .u64 t550] 24 (0, 0))) ∧ Aside0 (Below w.heap.size w wc))
        case first => as_aux_lemma =>
          have H := HC71.out
          clear HC71
          replace H := Option.bind_eq_some_iff.mp H
          obtain ⟨⟨t565, t566⟩, A720, H⟩ := H
          replace H : ((tnum_Has.f t565 t566 (Go.bits .and .u64 t553 t554)).bind fun t567 => (if t567 = true then ((tnum_Or.f t547 t548 t549 t550).bind fun bt568 => ((tnum_Has.f bt568.1 bt568.2 (Go.bits .or .u64 t553 t554)).bind fun t570 => (if t570 = true then ((tnum_Xor.f t547 t548 t549 t550).bind fun bt571 => ((tnum_Has.f bt571.1 bt571.2 (Go.bits .xor .u64 t553 t554)).bind fun t573 => (if t573 = true then ((tnum_Join.f t547 t548 t549 t550).bind fun bt574 => ((tnum_Has.f bt574.1 bt574.2 t553).bind fun t576 => (if t576 = true then ((tnum_Join.f t547 t548 t549 t550).bind fun bt577 => ((tnum_Has.f bt577.1 bt577.2 t554).bind fun t579 => (wardenlaw03_TnumSound.j1 kj11 a4 a5 t553 (IntKind.u64.wrap (a6)) (!t579) t547 t548 t549 t550))) else (wardenlaw03_TnumSound.j1 kj11 a4 a5 t553 (IntKind.u64.wrap (a6)) true t547 t548 t549 t550)))) else (wardenlaw03_TnumSound.j1 kj11 a4 a5 t553 (IntKind.u64.wrap (a6)) true t547 t548 t549 t550)))) else (wardenlaw03_TnumSound.j1 kj11 a4 a5 t553 (IntKind.u64.wrap (a6)) true t547 t548 t549 t550)))) else (wardenlaw03_TnumSound.j1 kj11 a4 a5 t553 (IntKind.u64.wrap (a6)) true t547 t548 t549 t550))) = some r := H
          have A72 := Aside0.mk A720
          clear A720
          replace H := Option.bind_eq_some_iff.mp H
          obtain ⟨t567, A730, H⟩ := H
          replace H : (if t567 = true then ((tnum_Or.f t547 t548 t549 t550).bind fun bt568 => ((tnum_Has.f bt568.1 bt568.2 (Go.bits .or .u64 t553 t554)).bind fun t570 => (if t570 = true then ((tnum_Xor.f t547 t548 t549 t550).bind fun bt571 => ((tnum_Has.f bt571.1 bt571.2 (Go.bits .xor .u64 t553 t554)).bind fun t573 => (if t573 = true then ((tnum_Join.f t547 t548 t549 t550).bind fun bt574 => ((tnum_Has.f bt574.1 bt574.2 t553).bind fun t576 => (if t576 = true then ((tnum_Join.f t547 t548 t549 t550).bind fun bt577 => ((tnum_Has.f bt577.1 bt577.2 t554).bind fun t579 => (wardenlaw03_TnumSound.j1 kj11 a4 a5 t553 (IntKind.u64.wrap (a6)) (!t579) t547 t548 t549 t550))) else (wardenlaw03_TnumSound.j1 kj11 a4 a5 t553 (IntKind.u64.wrap (a6)) true t547 t548 t549 t550)))) else (wardenlaw03_TnumSound.j1 kj11 a4 a5 t553 (IntKind.u64.wrap (a6)) true t547 t548 t549 t550)))) else (wardenlaw03_TnumSound.j1 kj11 a4 a5 t553 (IntKind.u64.wrap (a6)) true t547 t548 t549 t550)))) else (wardenlaw03_TnumSound.j1 kj11 a4 a5 t553 (IntKind.u64.wrap (a6)) true t547 t548 t549 t550)) = some r := H
          have A73 := Aside0.mk A730
          clear A730
          by_cases c74 : t567 = true
          · subst c74
            have H1 : ((tnum_Or.f t547 t548 t549 t550).bind fun bt568 => ((tnum_Has.f bt568.1 bt568.2 (Go.bits .or .u64 t553 t554)).bind fun t570 => (if t570 = true then ((tnum_Xor.f t547 t548 t549 t550).bind fun bt571 => ((tnum_Has.f bt571.1 bt571.2 (Go.bits .xor .u64 t553 t554)).bind fun t573 => (if t573 = true then ((tnum_Join.f t547 t548 t549 t550).bind fun bt574 => ((tnum_Has.f bt574.1 bt574.2 t553).bind fun t576 => (if t576 = true then ((tnum_Join.f t547 t548 t549 t550).bind fun bt577 => ((tnum_Has.f bt577.1 bt577.2 t554).bind fun t579 => (wardenlaw03_TnumSound.j1 kj11 a4 a5 t553 (IntKind.u64.wrap (a6)) (!t579) t547 t548 t549 t550))) else (wardenlaw03_TnumSound.j1 kj11 a4 a5 t553 (IntKind.u64.wrap (a6)) true t547 t548 t549 t550)))) else (wardenlaw03_TnumSound.j1 kj11 a4 a5 t553 (IntKind.u64.wrap (a6)) true t547 t548 t549 t550)))) else (wardenlaw03_TnumSound.j1 kj11 a4 a5 t553 (IntKind.u64.wrap (a6)) true t547 t548 t549 t550)))) = some r := by rw [if_pos rfl] at H; exact H
            clear H
            have H := H1
            clear H1
            replace H := Option.bind_eq_some_iff.mp H
            obtain ⟨⟨t568, t569⟩, A750, H⟩ := H
            replace H : ((tnum_Has.f t568 t569 (Go.bits .or .u64 t553 t554)).bind fun t570 => (if t570 = true then ((tnum_Xor.f t547 t548 t549 t550).bind fun bt571 => ((tnum_Has.f bt571.1 bt571.2 (Go.bits .xor .u64 t553 t554)).bind fun t573 => (if t573 = true then ((tnum_Join.f t547 t548 t549 t550).bind fun bt574 => ((tnum_Has.f bt574.1 bt574.2 t553).bind fun t576 => (if t576 = true then ((tnum_Join.f t547 t548 t549 t550).bind fun bt577 => ((tnum_Has.f bt577.1 bt577.2 t554).bind fun t579 => (wardenlaw03_TnumSound.j1 kj11 a4 a5 t553 (IntKind.u64.wrap (a6)) (!t579) t547 t548 t549 t550))) else (wardenlaw03_TnumSound.j1 kj11 a4 a5 t553 (IntKind.u64.wrap (a6)) true t547 t548 t549 t550)))) else (wardenlaw03_TnumSound.j1 kj11 a4 a5 t553 (IntKind.u64.wrap (a6)) true t547 t548 t549 t550)))) else (wardenlaw03_TnumSound.j1 kj11 a4 a5 t553 (IntKind.u64.wrap (a6)) true t547 t548 t549 t550))) = some r := H
            have A75 := Aside0.mk A750
            clear A750
            replace H := Option.bind_eq_some_iff.mp H
            obtain ⟨t570, A760, H⟩ := H
            replace H : (if t570 = true then ((tnum_Xor.f t547 t548 t549 t550).bind fun bt571 => ((tnum_Has.f bt571.1 bt571.2 (Go.bits .xor .u64 t553 t554)).bind fun t573 => (if t573 = true then ((tnum_Join.f t547 t548 t549 t550).bind fun bt574 => ((tnum_Has.f bt574.1 bt574.2 t553).bind fun t576 => (if t576 = true then ((tnum_Join.f t547 t548 t549 t550).bind fun bt577 => ((tnum_Has.f bt577.1 bt577.2 t554).bind fun t579 => (wardenlaw03_TnumSound.j1 kj11 a4 a5 t553 (IntKind.u64.wrap (a6)) (!t579) t547 t548 t549 t550))) else (wardenlaw03_TnumSound.j1 kj11 a4 a5 t553 (IntKind.u64.wrap (a6)) true t547 t548 t549 t550)))) else (wardenlaw03_TnumSound.j1 kj11 a4 a5 t553 (IntKind.u64.wrap (a6)) true t547 t548 t549 t550)))) else (wardenlaw03_TnumSound.j1 kj11 a4 a5 t553 (IntKind.u64.wrap (a6)) true t547 t548 t549 t550)) = some r := H
            have A76 := Aside0.mk A760
            clear A760
            by_cases c77 : t570 = true
            · subst c77
              have H1 : ((tnum_Xor.f t547 t548 t549 t550).bind fun bt571 => ((tnum_Has.f bt571.1 bt571.2 (Go.bits .xor .u64 t553 t554)).bind fun t573 => (if t573 = true then ((tnum_Join.f t547 t548 t549 t550).bind fun bt574 => ((tnum_Has.f bt574.1 bt574.2 t553).bind fun t576 => (if t576 = true then ((tnum_Join.f t547 t548 t549 t550).bind fun bt577 => ((tnum_Has.f bt577.1 bt577.2 t554).bind fun t579 => (wardenlaw03_TnumSound.j1 kj11 a4 a5 t553 (IntKind.u64.wrap (a6)) (!t579) t547 t548 t549 t550))) else (wardenlaw03_TnumSound.j1 kj11 a4 a5 t553 (IntKind.u64.wrap (a6)) true t547 t548 t549 t550)))) else (wardenlaw03_TnumSound.j1 kj11 a4 a5 t553 (IntKind.u64.wrap (a6)) true t547 t548 t549 t550)))) = some r := by rw [if_pos rfl] at H; exact H
              clear H
              have H := H1
              clear H1
              replace H := Option.bind_eq_some_iff.mp H
              obtain ⟨⟨t571, t572⟩, A780, H⟩ := H
              replace H : ((tnum_Has.f t571 t572 (Go.bits .xor .u64 t553 t554)).bind fun t573 => (if t573 = true then ((tnum_Join.f t547 t548 t549 t550).bind fun bt574 => ((tnum_Has.f bt574.1 bt574.2 t553).bind fun t576 => (if t576 = true then ((tnum_Join.f t547 t548 t549 t550).bind fun bt577 => ((tnum_Has.f bt577.1 bt577.2 t554).bind fun t579 => (wardenlaw03_TnumSound.j1 kj11 a4 a5 t553 (IntKind.u64.wrap (a6)) (!t579) t547 t548 t549 t550))) else (wardenlaw03_TnumSound.j1 kj11 a4 a5 t553 (IntKind.u64.wrap (a6)) true t547 t548 t549 t550)))) else (wardenlaw03_TnumSound.j1 kj11 a4 a5 t553 (IntKind.u64.wrap (a6)) true t547 t548 t549 t550))) = some r := H
              have A78 := Aside0.mk A780
              clear A780
              replace H := Option.bind_eq_some_iff.mp H
              obtain ⟨t573, A790, H⟩ := H
              replace H : (if t573 = true then ((tnum_Join.f t547 t548 t549 t550).bind fun bt574 => ((tnum_Has.f bt574.1 bt574.2 t553).bind fun t576 => (if t576 = true then ((tnum_Join.f t547 t548 t549 t550).bind fun bt577 => ((tnum_Has.f bt577.1 bt577.2 t554).bind fun t579 => (wardenlaw03_TnumSound.j1 kj11 a4 a5 t553 (IntKind.u64.wrap (a6)) (!t579) t547 t548 t549 t550))) else (wardenlaw03_TnumSound.j1 kj11 a4 a5 t553 (IntKind.u64.wrap (a6)) true t547 t548 t549 t550)))) else (wardenlaw03_TnumSound.j1 kj11 a4 a5 t553 (IntKind.u64.wrap (a6)) true t547 t548 t549 t550)) = some r := H
              have A79 := Aside0.mk A790
              clear A790
              by_cases c80 : t573 = true
              · subst c80
                have H1 : ((tnum_Join.f t547 t548 t549 t550).bind fun bt574 => ((tnum_Has.f bt574.1 bt574.2 t553).bind fun t576 => (if t576 = true then ((tnum_Join.f t547 t548 t549 t550).bind fun bt577 => ((tnum_Has.f bt577.1 bt577.2 t554).bind fun t579 => (wardenlaw03_TnumSound.j1 kj11 a4 a5 t553 (IntKind.u64.wrap (a6)) (!t579) t547 t548 t549 t550))) else (wardenlaw03_TnumSound.j1 kj11 a4 a5 t553 (IntKind.u64.wrap (a6)) true t547 t548 t549 t550)))) = some r := by rw [if_pos rfl] at H; exact H
                clear H
                have H := H1
                clear H1
                replace H := Option.bind_eq_some_iff.mp H
                obtain ⟨⟨t574, t575⟩, A810, H⟩ := H
                replace H : ((tnum_Has.f t574 t575 t553).bind fun t576 => (if t576 = true then ((tnum_Join.f t547 t548 t549 t550).bind fun bt577 => ((tnum_Has.f bt577.1 bt577.2 t554).bind fun t579 => (wardenlaw03_TnumSound.j1 kj11 a4 a5 t553 (IntKind.u64.wrap (a6)) (!t579) t547 t548 t549 t550))) else (wardenlaw03_TnumSound.j1 kj11 a4 a5 t553 (IntKind.u64.wrap (a6)) true t547 t548 t549 t550))) = some r := H
                have A81 := Aside0.mk A810
                clear A810
                replace H := Option.bind_eq_some_iff.mp H
                obtain ⟨t576, A820, H⟩ := H
                replace H : (if t576 = true then ((tnum_Join.f t547 t548 t549 t550).bind fun bt577 => ((tnum_Has.f bt577.1 bt577.2 t554).bind fun t579 => (wardenlaw03_TnumSound.j1 kj11 a4 a5 t553 (IntKind.u64.wrap (a6)) (!t579) t547 t548 t549 t550))) else (wardenlaw03_TnumSound.j1 kj11 a4 a5 t553 (IntKind.u64.wrap (a6)) true t547 t548 t549 t550)) = some r := H
                have A82 := Aside0.mk A820
                clear A820
                by_cases c83 : t576 = true
                · subst c83
                  have H1 : ((tnum_Join.f t547 t548 t549 t550).bind fun bt577 => ((tnum_Has.f bt577.1 bt577.2 t554).bind fun t579 => (wardenlaw03_TnumSound.j1 kj11 a4 a5 t553 (IntKind.u64.wrap (a6)) (!t579) t547 t548 t549 t550))) = some r := by rw [if_pos rfl] at H; exact H
                  clear H
                  have H := H1
                  clear H1
                  replace H := Option.bind_eq_some_iff.mp H
                  obtain ⟨⟨t577, t578⟩, A840, H⟩ := H
                  obtain ⟨rfl, rfl⟩ : t574 = t577 ∧ t575 = t578 := by
                    have h_ := A840
                    rw [A81.out] at h_
                    simpa using h_
                  replace H : ((tnum_Has.f t574 t575 t554).bind fun t579 => (wardenlaw03_TnumSound.j1 kj11 a4 a5 t553 (IntKind.u64.wrap (a6)) (!t579) t547 t548 t549 t550)) = some r := H
                  have A84 := Aside0.mk A840
                  clear A840
                  replace H := Option.bind_eq_some_iff.mp H
                  obtain ⟨t579, A850, H⟩ := H
                  replace H : (wardenlaw03_TnumSound.j1 kj11 a4 a5 t553 (IntKind.u64.wrap (a6)) (!t579) t547 t548 t549 t550) = some r := H
                  have A85 := Aside0.mk A850
                  clear A850
                  have H' := Aside0.mk H
                  clear H
                  have hnb86 := NB551_552.out
                  have hnc86 := NB552_551.out
                  have hcz87_0 : wc.cell? ⟨gb551, 0, none⟩ = some (.int .u64 t547) := (blk_cell BK551.out 0).trans rfl
                  have hcz87_1 : wc.cell? ⟨gb551, 1, none⟩ = some (.int .u64 t548) := (blk_cell BK551.out 1).trans rfl
                  have hfz87_0 := blk_frozen BK551.out 0
                  have hfz87_1 := blk_frozen BK551.out 1
                  have hcz88_0 : wc.cell? ⟨gb552, 0, none⟩ = some (.int .u64 t549) := (blk_cell BK552.out 0).trans rfl
                  have hcz88_1 : wc.cell? ⟨gb552, 1, none⟩ = some (.int .u64 t550) := (blk_cell BK552.out 1).trans rfl
                  have hfz88_0 := blk_frozen BK552.out 0
                  have hfz88_1 := blk_frozen BK552.out 1
                  go_wp2_with (first | ((with_reducible refine gate_callee (f := 27) rfl ?_); refine goesL_ (some 77) rfl rfl Try.func27 (by kernel_rfl) rfl #[.agg #[.int .u64 t547, .int .u64 t548], .agg #[.int .u64 t549, .int .u64 t550]] rfl (by (try simp only [List.map_toArray, List.map_cons, List.map_nil]); first | done | rfl | (simp only [List.length_drop, List.length_take]; rfl)) ?_; (with_reducible refine (tnum_And.calls t547 t548 t549 t550 t565 t566 _ A72.out).mono ?_); rintro e w89 ⟨rfl, hb⟩; refine ⟨_, rfl, ?_⟩; have n0_ := Aside0.mk (blk_below (g := gb551) (o := .cells #[.int .u64 t547, .int .u64 t548] 24 (0, 0)) (by (with_reducible repeat (first | refine blk_drewN ?_ _ | refine blk_drew ?_ | refine blk_alloc ?_ _)); exact BK551.out) hb); have n1_ := Aside0.mk (blk_below (g := gb552) (o := .cells #[.int .u64 t549, .int .u64 t550] 24 (0, 0)) (by (with_reducible repeat (first | refine blk_drewN ?_ _ | refine blk_drew ?_ | refine blk_alloc ?_ _)); exact BK552.out) hb); have n2_ := Aside0.mk (below_step (by repeat (first | (with_reducible first | exact HB.out | apply below_alloc | apply pw_below_drewN | apply below_drew1 | refine below_set ?_ GE551.out | refine below_set ?_ GE552.out) | exact HB.out)) hb); clear BK551; clear BK552; clear HB; have BK551 := n0_; have BK552 := n1_; have HB := n2_; clear n0_ n1_ n2_; (try clear hb); (try clear hb2); (try clear hk); (try clear hi)) | ((with_reducible refine gate_callee (f := 13) rfl ?_); refine goesL_ (some 81) rfl rfl Try.func13 (by kernel_rfl) rfl #[.agg #[.int .u64 t565, .int .u64 t566], .int .u64 (Go.bits .and .u64 t553 t554)] rfl (by (try simp only [List.map_toArray, List.map_cons, List.map_nil]); first | done | rfl | (simp only [List.length_drop, List.length_take]; rfl)) ?_; (with_reducible refine (tnum_Has.calls t565 t566 (Go.bits .and .u64 t553 t554) true _ A73.out).mono ?_); rintro e w90 ⟨rfl, hb⟩; refine ⟨_, rfl, ?_⟩; have n0_ := Aside0.mk (blk_below (g := gb551) (o := .cells #[.int .u64 t547, .int .u64 t548] 24 (0, 0)) (by (with_reducible repeat (first | refine blk_drewN ?_ _ | refine blk_drew ?_ | refine blk_alloc ?_ _)); exact BK551.out) hb); have n1_ := Aside0.mk (blk_below (g := gb552) (o := .cells #[.int .u64 t549, .int .u64 t550] 24 (0, 0)) (by (with_reducible repeat (first | refine blk_drewN ?_ _ | refine blk_drew ?_ | refine blk_alloc ?_ _)); exact BK552.out) hb); have n2_ := Aside0.mk (below_step (by repeat (first | (with_reducible first | exact HB.out | apply below_alloc | apply pw_below_drewN | apply below_drew1 | refine below_set ?_ GE551.out | refine below_set ?_ GE552.out) | exact HB.out)) hb); clear BK551; clear BK552; clear HB; have BK551 := n0_; have BK552 := n1_; have HB := n2_; clear n0_ n1_ n2_; (try clear hb); (try clear hb2); (try clear hk); (try clear hi); have hcz91_0 : w90.cell? ⟨gb551, 0, none⟩ = some (.int .u64 t547) := (blk_cell BK551.out 0).trans rfl; have hcz91_1 : w90.cell? ⟨gb551, 1, none⟩ = some (.int .u64 t548) := (blk_cell BK551.out 1).trans rfl; have hfz91_0 := blk_frozen BK551.out 0; have hfz91_1 := blk_frozen BK551.out 1; have hcz92_0 : w90.cell? ⟨gb552, 0, none⟩ = some (.int .u64 t549) := (blk_cell BK552.out 0).trans rfl; have hcz92_1 : w90.cell? ⟨gb552, 1, none⟩ = some (.int .u64 t550) := (blk_cell BK552.out 1).trans rfl; have hfz92_0 := blk_frozen BK552.out 0; have hfz92_1 := blk_frozen BK552.out 1) | (go_at_call 35; (with_reducible refine (tnum_Or.calls t547 t548 t549 t550 t568 t569 _ A75.out).mono ?_); rintro e w93 ⟨rfl, hb⟩; have n0_ := Aside0.mk (blk_below (g := gb551) (o := .cells #[.int .u64 t547, .int .u64 t548] 24 (0, 0)) (by (with_reducible repeat (first | refine blk_drewN ?_ _ | refine blk_drew ?_ | refine blk_alloc ?_ _)); exact BK551.out) hb); have n1_ := Aside0.mk (blk_below (g := gb552) (o := .cells #[.int .u64 t549, .int .u64 t550] 24 (0, 0)) (by (with_reducible repeat (first | refine blk_drewN ?_ _ | refine blk_drew ?_ | refine blk_alloc ?_ _)); exact BK552.out) hb); have n2_ := Aside0.mk (below_step (by repeat (first | (with_reducible first | exact HB.out | apply below_alloc | apply pw_below_drewN | apply below_drew1 | refine below_set ?_ GE551.out | refine below_set ?_ GE552.out) | exact HB.out)) hb); clear BK551; clear BK552; clear HB; have BK551 := n0_; have BK552 := n1_; have HB := n2_; clear n0_ n1_ n2_; (try clear hb); (try clear hb2); (try clear hk); (try clear hi)) | (go_at_call 13; (with_reducible refine (tnum_Has.calls t568 t569 (Go.bits .or .u64 t553 t554) true _ A76.out).mono ?_); rintro e w94 ⟨rfl, hb⟩; have n0_ := Aside0.mk (blk_below (g := gb551) (o := .cells #[.int .u64 t547, .int .u64 t548] 24 (0, 0)) (by (with_reducible repeat (first | refine blk_drewN ?_ _ | refine blk_drew ?_ | refine blk_alloc ?_ _)); exact BK551.out) hb); have n1_ := Aside0.mk (blk_below (g := gb552) (o := .cells #[.int .u64 t549, .int .u64 t550] 24 (0, 0)) (by (with_reducible repeat (first | refine blk_drewN ?_ _ | refine blk_drew ?_ | refine blk_alloc ?_ _)); exact BK552.out) hb); have n2_ := Aside0.mk (below_step (by repeat (first | (with_reducible first | exact HB.out | apply below_alloc | apply pw_below_drewN | apply below_drew1 | refine below_set ?_ GE551.out | refine below_set ?_ GE552.out) | exact HB.out)) hb); clear BK551; clear BK552; clear HB; have BK551 := n0_; have BK552 := n1_; have HB := n2_; clear n0_ n1_ n2_; (try clear hb); (try clear hb2); (try clear hk); (try clear hi); have hcz95_0 : w94.cell? ⟨gb551, 0, none⟩ = some (.int .u64 t547) := (blk_cell BK551.out 0).trans rfl; have hcz95_1 : w94.cell? ⟨gb551, 1, none⟩ = some (.int .u64 t548) := (blk_cell BK551.out 1).trans rfl; have hfz95_0 := blk_frozen BK551.out 0; have hfz95_1 := blk_frozen BK551.out 1; have hcz96_0 : w94.cell? ⟨gb552, 0, none⟩ = some (.int .u64 t549) := (blk_cell BK552.out 0).trans rfl; have hcz96_1 : w94.cell? ⟨gb552, 1, none⟩ = some (.int .u64 t550) := (blk_cell BK552.out 1).trans rfl; have hfz96_0 := blk_frozen BK552.out 0; have hfz96_1 := blk_frozen BK552.out 1) | (go_at_call 36; (with_reducible refine (tnum_Xor.calls t547 t548 t549 t550 t571 t572 _ A78.out).mono ?_); rintro e w97 ⟨rfl, hb⟩; have n0_ := Aside0.mk (blk_below (g := gb551) (o := .cells #[.int .u64 t547, .int .u64 t548] 24 (0, 0)) (by (with_reducible repeat (first | refine blk_drewN ?_ _ | refine blk_drew ?_ | refine blk_alloc ?_ _)); exact BK551.out) hb); have n1_ := Aside0.mk (blk_below (g := gb552) (o := .cells #[.int .u64 t549, .int .u64 t550] 24 (0, 0)) (by (with_reducible repeat (first | refine blk_drewN ?_ _ | refine blk_drew ?_ | refine blk_alloc ?_ _)); exact BK552.out) hb); have n2_ := Aside0.mk (below_step (by repeat (first | (with_reducible first | exact HB.out | apply below_alloc | apply pw_below_drewN | apply below_drew1 | refine below_set ?_ GE551.out | refine below_set ?_ GE552.out) | exact HB.out)) hb); clear BK551; clear BK552; clear HB; have BK551 := n0_; have BK552 := n1_; have HB := n2_; clear n0_ n1_ n2_; (try clear hb); (try clear hb2); (try clear hk); (try clear hi)) | (go_at_call 13; (with_reducible refine (tnum_Has.calls t571 t572 (Go.bits .xor .u64 t553 t554) true _ A79.out).mono ?_); rintro e w98 ⟨rfl, hb⟩; have n0_ := Aside0.mk (blk_below (g := gb551) (o := .cells #[.int .u64 t547, .int .u64 t548] 24 (0, 0)) (by (with_reducible repeat (first | refine blk_drewN ?_ _ | refine blk_drew ?_ | refine blk_alloc ?_ _)); exact BK551.out) hb); have n1_ := Aside0.mk (blk_below (g := gb552) (o := .cells #[.int .u64 t549, .int .u64 t550] 24 (0, 0)) (by (with_reducible repeat (first | refine blk_drewN ?_ _ | refine blk_drew ?_ | refine blk_alloc ?_ _)); exact BK552.out) hb); have n2_ := Aside0.mk (below_step (by repeat (first | (with_reducible first | exact HB.out | apply below_alloc | apply pw_below_drewN | apply below_drew1 | refine below_set ?_ GE551.out | refine below_set ?_ GE552.out) | exact HB.out)) hb); clear BK551; clear BK552; clear HB; have BK551 := n0_; have BK552 := n1_; have HB := n2_; clear n0_ n1_ n2_; (try clear hb); (try clear hb2); (try clear hk); (try clear hi); have hcz99_0 : w98.cell? ⟨gb551, 0, none⟩ = some (.int .u64 t547) := (blk_cell BK551.out 0).trans rfl; have hcz99_1 : w98.cell? ⟨gb551, 1, none⟩ = some (.int .u64 t548) := (blk_cell BK551.out 1).trans rfl; have hfz99_0 := blk_frozen BK551.out 0; have hfz99_1 := blk_frozen BK551.out 1; have hcz100_0 : w98.cell? ⟨gb552, 0, none⟩ = some (.int .u64 t549) := (blk_cell BK552.out 0).trans rfl; have hcz100_1 : w98.cell? ⟨gb552, 1, none⟩ = some (.int .u64 t550) := (blk_cell BK552.out 1).trans rfl; have hfz100_0 := blk_frozen BK552.out 0; have hfz100_1 := blk_frozen BK552.out 1) | (go_at_call 20; (with_reducible refine (tnum_Join.calls t547 t548 t549 t550 t574 t575 _ A81.out).mono ?_); rintro e w101 ⟨rfl, hb⟩; have n0_ := Aside0.mk (blk_below (g := gb551) (o := .cells #[.int .u64 t547, .int .u64 t548] 24 (0, 0)) (by (with_reducible repeat (first | refine blk_drewN ?_ _ | refine blk_drew ?_ | refine blk_alloc ?_ _)); exact BK551.out) hb); have n1_ := Aside0.mk (blk_below (g := gb552) (o := .cells #[.int .u64 t549, .int .u64 t550] 24 (0, 0)) (by (with_reducible repeat (first | refine blk_drewN ?_ _ | refine blk_drew ?_ | refine blk_alloc ?_ _)); exact BK552.out) hb); have n2_ := Aside0.mk (below_step (by repeat (first | (with_reducible first | exact HB.out | apply below_alloc | apply pw_below_drewN | apply below_drew1 | refine below_set ?_ GE551.out | refine below_set ?_ GE552.out) | exact HB.out)) hb); clear BK551; clear BK552; clear HB; have BK551 := n0_; have BK552 := n1_; have HB := n2_; clear n0_ n1_ n2_; (try clear hb); (try clear hb2); (try clear hk); (try clear hi)) | (go_at_call 13; (with_reducible refine (tnum_Has.calls t574 t575 t553 true _ A82.out).mono ?_); rintro e w102 ⟨rfl, hb⟩; have n0_ := Aside0.mk (blk_below (g := gb551) (o := .cells #[.int .u64 t547, .int .u64 t548] 24 (0, 0)) (by (with_reducible repeat (first | refine blk_drewN ?_ _ | refine blk_drew ?_ | refine blk_alloc ?_ _)); exact BK551.out) hb); have n1_ := Aside0.mk (blk_below (g := gb552) (o := .cells #[.int .u64 t549, .int .u64 t550] 24 (0, 0)) (by (with_reducible repeat (first | refine blk_drewN ?_ _ | refine blk_drew ?_ | refine blk_alloc ?_ _)); exact BK552.out) hb); have n2_ := Aside0.mk (below_step (by repeat (first | (with_reducible first | exact HB.out | apply below_alloc | apply pw_below_drewN | apply below_drew1 | refine below_set ?_ GE551.out | refine below_set ?_ GE552.out) | exact HB.out)) hb); clear BK551; clear BK552; clear HB; have BK551 := n0_; have BK552 := n1_; have HB := n2_; clear n0_ n1_ n2_; (try clear hb); (try clear hb2); (try clear hk); (try clear hi); have hcz103_0 : w102.cell? ⟨gb551, 0, none⟩ = some (.int .u64 t547) := (blk_cell BK551.out 0).trans rfl; have hcz103_1 : w102.cell? ⟨gb551, 1, none⟩ = some (.int .u64 t548) := (blk_cell BK551.out 1).trans rfl; have hfz103_0 := blk_frozen BK551.out 0; have hfz103_1 := blk_frozen BK551.out 1; have hcz104_0 : w102.cell? ⟨gb552, 0, none⟩ = some (.int .u64 t549) := (blk_cell BK552.out 0).trans rfl; have hcz104_1 : w102.cell? ⟨gb552, 1, none⟩ = some (.int .u64 t550) := (blk_cell BK552.out 1).trans rfl; have hfz104_0 := blk_frozen BK552.out 0; have hfz104_1 := blk_frozen BK552.out 1) | (go_at_call 20; (with_reducible refine (tnum_Join.calls t547 t548 t549 t550 t574 t575 _ A84.out).mono ?_); rintro e w105 ⟨rfl, hb⟩; have n0_ := Aside0.mk (blk_below (g := gb551) (o := .cells #[.int .u64 t547, .int .u64 t548] 24 (0, 0)) (by (with_reducible repeat (first | refine blk_drewN ?_ _ | refine blk_drew ?_ | refine blk_alloc ?_ _)); exact BK551.out) hb); have n1_ := Aside0.mk (blk_below (g := gb552) (o := .cells #[.int .u64 t549, .int .u64 t550] 24 (0, 0)) (by (with_reducible repeat (first | refine blk_drewN ?_ _ | refine blk_drew ?_ | refine blk_alloc ?_ _)); exact BK552.out) hb); have n2_ := Aside0.mk (below_step (by repeat (first | (with_reducible first | exact HB.out | apply below_alloc | apply pw_below_drewN | apply below_drew1 | refine below_set ?_ GE551.out | refine below_set ?_ GE552.out) | exact HB.out)) hb); clear BK551; clear BK552; clear HB; have BK551 := n0_; have BK552 := n1_; have HB := n2_; clear n0_ n1_ n2_; (try clear hb); (try clear hb2); (try clear hk); (try clear hi)) | (go_at_call 13; (with_reducible refine (tnum_Has.calls t574 t575 t554 t579 _ A85.out).mono ?_); rintro e w106 ⟨rfl, hb⟩; have n0_ := Aside0.mk (blk_below (g := gb551) (o := .cells #[.int .u64 t547, .int .u64 t548] 24 (0, 0)) (by (with_reducible repeat (first | refine blk_drewN ?_ _ | refine blk_drew ?_ | refine blk_alloc ?_ _)); exact BK551.out) hb); have n1_ := Aside0.mk (blk_below (g := gb552) (o := .cells #[.int .u64 t549, .int .u64 t550] 24 (0, 0)) (by (with_reducible repeat (first | refine blk_drewN ?_ _ | refine blk_drew ?_ | refine blk_alloc ?_ _)); exact BK552.out) hb); have n2_ := Aside0.mk (below_step (by repeat (first | (with_reducible first | exact HB.out | apply below_alloc | apply pw_below_drewN | apply below_drew1 | refine below_set ?_ GE551.out | refine below_set ?_ GE552.out) | exact HB.out)) hb); clear BK551; clear BK552; clear HB; have BK551 := n0_; have BK552 := n1_; have HB := n2_; clear n0_ n1_ n2_; (try clear hb); (try clear hb2); (try clear hk); (try clear hi)))
                  go_meet
                  case rel => exact ⟨_, (!t579), (by first | rfl | (simp; done) | (simp [*]; done)), H', ⟨by have := HJ11.out; first | omega | exact Nat.le_refl _⟩, ⟨by (with_reducible repeat (first | refine blk_drewN ?_ _ | refine blk_drew ?_ | refine blk_alloc ?_ _)); exact BK551.out⟩, ⟨by (with_reducible repeat (first | refine blk_drewN ?_ _ | refine blk_drew ?_ | refine blk_alloc ?_ _)); exact BK552.out⟩, ⟨by repeat (first | (with_reducible first | exact HB.out | apply below_alloc | apply pw_below_drewN | apply below_drew1 | refine below_set ?_ GE551.out | refine below_set ?_ GE552.out) | exact HB.out)⟩⟩
                · replace c83 := Bool.eq_false_iff.mpr c83
                  subst c83
                  have H1 : (wardenlaw03_TnumSound.j1 kj11 a4 a5 t553 (IntKind.u64.wrap (a6)) true t547 t548 t549 t550) = some r := by rw [if_neg (show ¬ (false = true) by decide)] at H; exact H
                  clear H
                  have H := H1
                  clear H1
                  have H' := Aside0.mk H
                  clear H
                  have hnb107 := NB551_552.out
                  have hnc107 := NB552_551.out
                  have hcz108_0 : wc.cell? ⟨gb551, 0, none⟩ = some (.int .u64 t547) := (blk_cell BK551.out 0).trans rfl
                  have hcz108_1 : wc.cell? ⟨gb551, 1, none⟩ = some (.int .u64 t548) := (blk_cell BK551.out 1).trans rfl
                  have hfz108_0 := blk_frozen BK551.out 0
                  have hfz108_1 := blk_frozen BK551.out 1
                  have hcz109_0 : wc.cell? ⟨gb552, 0, none⟩ = some (.int .u64 t549) := (blk_cell BK552.out 0).trans rfl
                  have hcz109_1 : wc.cell? ⟨gb552, 1, none⟩ = some (.int .u64 t550) := (blk_cell BK552.out 1).trans rfl
                  have hfz109_0 := blk_frozen BK552.out 0
                  have hfz109_1 := blk_frozen BK552.out 1
                  go_wp2_with (first | ((with_reducible refine gate_callee (f := 27) rfl ?_); refine goesL_ (some 77) rfl rfl Try.func27 (by kernel_rfl) rfl #[.agg #[.int .u64 t547, .int .u64 t548], .agg #[.int .u64 t549, .int .u64 t550]] rfl (by (try simp only [List.map_toArray, List.map_cons, List.map_nil]); first | done | rfl | (simp only [List.length_drop, List.length_take]; rfl)) ?_; (with_reducible refine (tnum_And.calls t547 t548 t549 t550 t565 t566 _ A72.out).mono ?_); rintro e w110 ⟨rfl, hb⟩; refine ⟨_, rfl, ?_⟩; have n0_ := Aside0.mk (blk_below (g := gb551) (o := .cells #[.int .u64 t547, .int .u64 t548] 24 (0, 0)) (by (with_reducible repeat (first | refine blk_drewN ?_ _ | refine blk_drew ?_ | refine blk_alloc ?_ _)); exact BK551.out) hb); have n1_ := Aside0.mk (blk_below (g := gb552) (o := .cells #[.int .u64 t549, .int .u64 t550] 24 (0, 0)) (by (with_reducible repeat (first | refine blk_drewN ?_ _ | refine blk_drew ?_ | refine blk_alloc ?_ _)); exact BK552.out) hb); have n2_ := Aside0.mk (below_step (by repeat (first | (with_reducible first | exact HB.out | apply below_alloc | apply pw_below_drewN | apply below_drew1 | refine below_set ?_ GE551.out | refine below_set ?_ GE552.out) | exact HB.out)) hb); clear BK551; clear BK552; clear HB; have BK551 := n0_; have BK552 := n1_; have HB := n2_; clear n0_ n1_ n2_; (try clear hb); (try clear hb2); (try clear hk); (try clear hi)) | ((with_reducible refine gate_callee (f := 13) rfl ?_); refine goesL_ (some 81) rfl rfl Try.func13 (by kernel_rfl) rfl #[.agg #[.int .u64 t565, .int .u64 t566], .int .u64 (Go.bits .and .u64 t553 t554)] rfl (by (try simp only [List.map_toArray, List.map_cons, List.map_nil]); first | done | rfl | (simp only [List.length_drop, List.length_take]; rfl)) ?_; (with_reducible refine (tnum_Has.calls t565 t566 (Go.bits .and .u64 t553 t554) true _ A73.out).mono ?_); rintro e w111 ⟨rfl, hb⟩; refine ⟨_, rfl, ?_⟩; have n0_ := Aside0.mk (blk_below (g := gb551) (o := .cells #[.int .u64 t547, .int .u64 t548] 24 (0, 0)) (by (with_reducible repeat (first | refine blk_drewN ?_ _ | refine blk_drew ?_ | refine blk_alloc ?_ _)); exact BK551.out) hb); have n1_ := Aside0.mk (blk_below (g := gb552) (o := .cells #[.int .u64 t549, .int .u64 t550] 24 (0, 0)) (by (with_reducible repeat (first | refine blk_drewN ?_ _ | refine blk_drew ?_ | refine blk_alloc ?_ _)); exact BK552.out) hb); have n2_ := Aside0.mk (below_step (by repeat (first | (with_reducible first | exact HB.out | apply below_alloc | apply pw_below_drewN | apply below_drew1 | refine below_set ?_ GE551.out | refine below_set ?_ GE552.out) | exact HB.out)) hb); clear BK551; clear BK552; clear HB; have BK551 := n0_; have BK552 := n1_; have HB := n2_; clear n0_ n1_ n2_; (try clear hb); (try clear hb2); (try clear hk); (try clear hi); have hcz112_0 : w111.cell? ⟨gb551, 0, none⟩ = some (.int .u64 t547) := (blk_cell BK551.out 0).trans rfl; have hcz112_1 : w111.cell? ⟨gb551, 1, none⟩ = some (.int .u64 t548) := (blk_cell BK551.out 1).trans rfl; have hfz112_0 := blk_frozen BK551.out 0; have hfz112_1 := blk_frozen BK551.out 1; have hcz113_0 : w111.cell? ⟨gb552, 0, none⟩ = some (.int .u64 t549) := (blk_cell BK552.out 0).trans rfl; have hcz113_1 : w111.cell? ⟨gb552, 1, none⟩ = some (.int .u64 t550) := (blk_cell BK552.out 1).trans rfl; have hfz113_0 := blk_frozen BK552.out 0; have hfz113_1 := blk_frozen BK552.out 1) | (go_at_call 35; (with_reducible refine (tnum_Or.calls t547 t548 t549 t550 t568 t569 _ A75.out).mono ?_); rintro e w114 ⟨rfl, hb⟩; have n0_ := Aside0.mk (blk_below (g := gb551) (o := .cells #[.int .u64 t547, .int .u64 t548] 24 (0, 0)) (by (with_reducible repeat (first | refine blk_drewN ?_ _ | refine blk_drew ?_ | refine blk_alloc ?_ _)); exact BK551.out) hb); have n1_ := Aside0.mk (blk_below (g := gb552) (o := .cells #[.int .u64 t549, .int .u64 t550] 24 (0, 0)) (by (with_reducible repeat (first | refine blk_drewN ?_ _ | refine blk_drew ?_ | refine blk_alloc ?_ _)); exact BK552.out) hb); have n2_ := Aside0.mk (below_step (by repeat (first | (with_reducible first | exact HB.out | apply below_alloc | apply pw_below_drewN | apply below_drew1 | refine below_set ?_ GE551.out | refine below_set ?_ GE552.out) | exact HB.out)) hb); clear BK551; clear BK552; clear HB; have BK551 := n0_; have BK552 := n1_; have HB := n2_; clear n0_ n1_ n2_; (try clear hb); (try clear hb2); (try clear hk); (try clear hi)) | (go_at_call 13; (with_reducible refine (tnum_Has.calls t568 t569 (Go.bits .or .u64 t553 t554) true _ A76.out).mono ?_); rintro e w115 ⟨rfl, hb⟩; have n0_ := Aside0.mk (blk_below (g := gb551) (o := .cells #[.int .u64 t547, .int .u64 t548] 24 (0, 0)) (by (with_reducible repeat (first | refine blk_drewN ?_ _ | refine blk_drew ?_ | refine blk_alloc ?_ _)); exact BK551.out) hb); have n1_ := Aside0.mk (blk_below (g := gb552) (o := .cells #[.int .u64 t549, .int .u64 t550] 24 (0, 0)) (by (with_reducible repeat (first | refine blk_drewN ?_ _ | refine blk_drew ?_ | refine blk_alloc ?_ _)); exact BK552.out) hb); have n2_ := Aside0.mk (below_step (by repeat (first | (with_reducible first | exact HB.out | apply below_alloc | apply pw_below_drewN | apply below_drew1 | refine below_set ?_ GE551.out | refine below_set ?_ GE552.out) | exact HB.out)) hb); clear BK551; clear BK552; clear HB; have BK551 := n0_; have BK552 := n1_; have HB := n2_; clear n0_ n1_ n2_; (try clear hb); (try clear hb2); (try clear hk); (try clear hi); have hcz116_0 : w115.cell? ⟨gb551, 0, none⟩ = some (.int .u64 t547) := (blk_cell BK551.out 0).trans rfl; have hcz116_1 : w115.cell? ⟨gb551, 1, none⟩ = some (.int .u64 t548) := (blk_cell BK551.out 1).trans rfl; have hfz116_0 := blk_frozen BK551.out 0; have hfz116_1 := blk_frozen BK551.out 1; have hcz117_0 : w115.cell? ⟨gb552, 0, none⟩ = some (.int .u64 t549) := (blk_cell BK552.out 0).trans rfl; have hcz117_1 : w115.cell? ⟨gb552, 1, none⟩ = some (.int .u64 t550) := (blk_cell BK552.out 1).trans rfl; have hfz117_0 := blk_frozen BK552.out 0; have hfz117_1 := blk_frozen BK552.out 1) | (go_at_call 36; (with_reducible refine (tnum_Xor.calls t547 t548 t549 t550 t571 t572 _ A78.out).mono ?_); rintro e w118 ⟨rfl, hb⟩; have n0_ := Aside0.mk (blk_below (g := gb551) (o := .cells #[.int .u64 t547, .int .u64 t548] 24 (0, 0)) (by (with_reducible repeat (first | refine blk_drewN ?_ _ | refine blk_drew ?_ | refine blk_alloc ?_ _)); exact BK551.out) hb); have n1_ := Aside0.mk (blk_below (g := gb552) (o := .cells #[.int .u64 t549, .int .u64 t550] 24 (0, 0)) (by (with_reducible repeat (first | refine blk_drewN ?_ _ | refine blk_drew ?_ | refine blk_alloc ?_ _)); exact BK552.out) hb); have n2_ := Aside0.mk (below_step (by repeat (first | (with_reducible first | exact HB.out | apply below_alloc | apply pw_below_drewN | apply below_drew1 | refine below_set ?_ GE551.out | refine below_set ?_ GE552.out) | exact HB.out)) hb); clear BK551; clear BK552; clear HB; have BK551 := n0_; have BK552 := n1_; have HB := n2_; clear n0_ n1_ n2_; (try clear hb); (try clear hb2); (try clear hk); (try clear hi)) | (go_at_call 13; (with_reducible refine (tnum_Has.calls t571 t572 (Go.bits .xor .u64 t553 t554) true _ A79.out).mono ?_); rintro e w119 ⟨rfl, hb⟩; have n0_ := Aside0.mk (blk_below (g := gb551) (o := .cells #[.int .u64 t547, .int .u64 t548] 24 (0, 0)) (by (with_reducible repeat (first | refine blk_drewN ?_ _ | refine blk_drew ?_ | refine blk_alloc ?_ _)); exact BK551.out) hb); have n1_ := Aside0.mk (blk_below (g := gb552) (o := .cells #[.int .u64 t549, .int .u64 t550] 24 (0, 0)) (by (with_reducible repeat (first | refine blk_drewN ?_ _ | refine blk_drew ?_ | refine blk_alloc ?_ _)); exact BK552.out) hb); have n2_ := Aside0.mk (below_step (by repeat (first | (with_reducible first | exact HB.out | apply below_alloc | apply pw_below_drewN | apply below_drew1 | refine below_set ?_ GE551.out | refine below_set ?_ GE552.out) | exact HB.out)) hb); clear BK551; clear BK552; clear HB; have BK551 := n0_; have BK552 := n1_; have HB := n2_; clear n0_ n1_ n2_; (try clear hb); (try clear hb2); (try clear hk); (try clear hi); have hcz120_0 : w119.cell? ⟨gb551, 0, none⟩ = some (.int .u64 t547) := (blk_cell BK551.out 0).trans rfl; have hcz120_1 : w119.cell? ⟨gb551, 1, none⟩ = some (.int .u64 t548) := (blk_cell BK551.out 1).trans rfl; have hfz120_0 := blk_frozen BK551.out 0; have hfz120_1 := blk_frozen BK551.out 1; have hcz121_0 : w119.cell? ⟨gb552, 0, none⟩ = some (.int .u64 t549) := (blk_cell BK552.out 0).trans rfl; have hcz121_1 : w119.cell? ⟨gb552, 1, none⟩ = some (.int .u64 t550) := (blk_cell BK552.out 1).trans rfl; have hfz121_0 := blk_frozen BK552.out 0; have hfz121_1 := blk_frozen BK552.out 1) | (go_at_call 20; (with_reducible refine (tnum_Join.calls t547 t548 t549 t550 t574 t575 _ A81.out).mono ?_); rintro e w122 ⟨rfl, hb⟩; have n0_ := Aside0.mk (blk_below (g := gb551) (o := .cells #[.int .u64 t547, .int .u64 t548] 24 (0, 0)) (by (with_reducible repeat (first | refine blk_drewN ?_ _ | refine blk_drew ?_ | refine blk_alloc ?_ _)); exact BK551.out) hb); have n1_ := Aside0.mk (blk_below (g := gb552) (o := .cells #[.int .u64 t549, .int .u64 t550] 24 (0, 0)) (by (with_reducible repeat (first | refine blk_drewN ?_ _ | refine blk_drew ?_ | refine blk_alloc ?_ _)); exact BK552.out) hb); have n2_ := Aside0.mk (below_step (by repeat (first | (with_reducible first | exact HB.out | apply below_alloc | apply pw_below_drewN | apply below_drew1 | refine below_set ?_ GE551.out | refine below_set ?_ GE552.out) | exact HB.out)) hb); clear BK551; clear BK552; clear HB; have BK551 := n0_; have BK552 := n1_; have HB := n2_; clear n0_ n1_ n2_; (try clear hb); (try clear hb2); (try clear hk); (try clear hi)) | (go_at_call 13; (with_reducible refine (tnum_Has.calls t574 t575 t553 false _ A82.out).mono ?_); rintro e w123 ⟨rfl, hb⟩; have n0_ := Aside0.mk (blk_below (g := gb551) (o := .cells #[.int .u64 t547, .int .u64 t548] 24 (0, 0)) (by (with_reducible repeat (first | refine blk_drewN ?_ _ | refine blk_drew ?_ | refine blk_alloc ?_ _)); exact BK551.out) hb); have n1_ := Aside0.mk (blk_below (g := gb552) (o := .cells #[.int .u64 t549, .int .u64 t550] 24 (0, 0)) (by (with_reducible repeat (first | refine blk_drewN ?_ _ | refine blk_drew ?_ | refine blk_alloc ?_ _)); exact BK552.out) hb); have n2_ := Aside0.mk (below_step (by repeat (first | (with_reducible first | exact HB.out | apply below_alloc | apply pw_below_drewN | apply below_drew1 | refine below_set ?_ GE551.out | refine below_set ?_ GE552.out) | exact HB.out)) hb); clear BK551; clear BK552; clear HB; have BK551 := n0_; have BK552 := n1_; have HB := n2_; clear n0_ n1_ n2_; (try clear hb); (try clear hb2); (try clear hk); (try clear hi)))
                  go_meet
                  case rel => exact ⟨_, (true), (by first | rfl | (simp; done) | (simp [*]; done)), H', ⟨by have := HJ11.out; first | omega | exact Nat.le_refl _⟩, ⟨by (with_reducible repeat (first | refine blk_drewN ?_ _ | refine blk_drew ?_ | refine blk_alloc ?_ _)); exact BK551.out⟩, ⟨by (with_reducible repeat (first | refine blk_drewN ?_ _ | refine blk_drew ?_ | refine blk_alloc ?_ _)); exact BK552.out⟩, ⟨by repeat (first | (with_reducible first | exact HB.out | apply below_alloc | apply pw_below_drewN | apply below_drew1 | refine below_set ?_ GE551.out | refine below_set ?_ GE552.out) | exact HB.out)⟩⟩
              · replace c80 := Bool.eq_false_iff.mpr c80
                subst c80
                have H1 : (wardenlaw03_TnumSound.j1 kj11 a4 a5 t553 (IntKind.u64.wrap (a6)) true t547 t548 t549 t550) = some r := by rw [if_neg (show ¬ (false = true) by decide)] at H; exact H
                clear H
                have H := H1
                clear H1
                have H' := Aside0.mk H
                clear H
                have hnb124 := NB551_552.out
                have hnc124 := NB552_551.out
                have hcz125_0 : wc.cell? ⟨gb551, 0, none⟩ = some (.int .u64 t547) := (blk_cell BK551.out 0).trans rfl
                have hcz125_1 : wc.cell? ⟨gb551, 1, none⟩ = some (.int .u64 t548) := (blk_cell BK551.out 1).trans rfl
                have hfz125_0 := blk_frozen BK551.out 0
                have hfz125_1 := blk_frozen BK551.out 1
                have hcz126_0 : wc.cell? ⟨gb552, 0, none⟩ = some (.int .u64 t549) := (blk_cell BK552.out 0).trans rfl
                have hcz126_1 : wc.cell? ⟨gb552, 1, none⟩ = some (.int .u64 t550) := (blk_cell BK552.out 1).trans rfl
                have hfz126_0 := blk_frozen BK552.out 0
                have hfz126_1 := blk_frozen BK552.out 1
                go_wp2_with (first | ((with_reducible refine gate_callee (f := 27) rfl ?_); refine goesL_ (some 77) rfl rfl Try.func27 (by kernel_rfl) rfl #[.agg #[.int .u64 t547, .int .u64 t548], .agg #[.int .u64 t549, .int .u64 t550]] rfl (by (try simp only [List.map_toArray, List.map_cons, List.map_nil]); first | done | rfl | (simp only [List.length_drop, List.length_take]; rfl)) ?_; (with_reducible refine (tnum_And.calls t547 t548 t549 t550 t565 t566 _ A72.out).mono ?_); rintro e w127 ⟨rfl, hb⟩; refine ⟨_, rfl, ?_⟩; have n0_ := Aside0.mk (blk_below (g := gb551) (o := .cells #[.int .u64 t547, .int .u64 t548] 24 (0, 0)) (by (with_reducible repeat (first | refine blk_drewN ?_ _ | refine blk_drew ?_ | refine blk_alloc ?_ _)); exact BK551.out) hb); have n1_ := Aside0.mk (blk_below (g := gb552) (o := .cells #[.int .u64 t549, .int .u64 t550] 24 (0, 0)) (by (with_reducible repeat (first | refine blk_drewN ?_ _ | refine blk_drew ?_ | refine blk_alloc ?_ _)); exact BK552.out) hb); have n2_ := Aside0.mk (below_step (by repeat (first | (with_reducible first | exact HB.out | apply below_alloc | apply pw_below_drewN | apply below_drew1 | refine below_set ?_ GE551.out | refine below_set ?_ GE552.out) | exact HB.out)) hb); clear BK551; clear BK552; clear HB; have BK551 := n0_; have BK552 := n1_; have HB := n2_; clear n0_ n1_ n2_; (try clear hb); (try clear hb2); (try clear hk); (try clear hi)) | ((with_reducible refine gate_callee (f := 13) rfl ?_); refine goesL_ (some 81) rfl rfl Try.func13 (by kernel_rfl) rfl #[.agg #[.int .u64 t565, .int .u64 t566], .int .u64 (Go.bits .and .u64 t553 t554)] rfl (by (try simp only [List.map_toArray, List.map_cons, List.map_nil]); first | done | rfl | (simp only [List.length_drop, List.length_take]; rfl)) ?_; (with_reducible refine (tnum_Has.calls t565 t566 (Go.bits .and .u64 t553 t554) true _ A73.out).mono ?_); rintro e w128 ⟨rfl, hb⟩; refine ⟨_, rfl, ?_⟩; have n0_ := Aside0.mk (blk_below (g := gb551) (o := .cells #[.int .u64 t547, .int .u64 t548] 24 (0, 0)) (by (with_reducible repeat (first | refine blk_drewN ?_ _ | refine blk_drew ?_ | refine blk_alloc ?_ _)); exact BK551.out) hb); have n1_ := Aside0.mk (blk_below (g := gb552) (o := .cells #[.int .u64 t549, .int .u64 t550] 24 (0, 0)) (by (with_reducible repeat (first | refine blk_drewN ?_ _ | refine blk_drew ?_ | refine blk_alloc ?_ _)); exact BK552.out) hb); have n2_ := Aside0.mk (below_step (by repeat (first | (with_reducible first | exact HB.out | apply below_alloc | apply pw_below_drewN | apply below_drew1 | refine below_set ?_ GE551.out | refine below_set ?_ GE552.out) | exact HB.out)) hb); clear BK551; clear BK552; clear HB; have BK551 := n0_; have BK552 := n1_; have HB := n2_; clear n0_ n1_ n2_; (try clear hb); (try clear hb2); (try clear hk); (try clear hi); have hcz129_0 : w128.cell? ⟨gb551, 0, none⟩ = some (.int .u64 t547) := (blk_cell BK551.out 0).trans rfl; have hcz129_1 : w128.cell? ⟨gb551, 1, none⟩ = some (.int .u64 t548) := (blk_cell BK551.out 1).trans rfl; have hfz129_0 := blk_frozen BK551.out 0; have hfz129_1 := blk_frozen BK551.out 1; have hcz130_0 : w128.cell? ⟨gb552, 0, none⟩ = some (.int .u64 t549) := (blk_cell BK552.out 0).trans rfl; have hcz130_1 : w128.cell? ⟨gb552, 1, none⟩ = some (.int .u64 t550) := (blk_cell BK552.out 1).trans rfl; have hfz130_0 := blk_frozen BK552.out 0; have hfz130_1 := blk_frozen BK552.out 1) | (go_at_call 35; (with_reducible refine (tnum_Or.calls t547 t548 t549 t550 t568 t569 _ A75.out).mono ?_); rintro e w131 ⟨rfl, hb⟩; have n0_ := Aside0.mk (blk_below (g := gb551) (o := .cells #[.int .u64 t547, .int .u64 t548] 24 (0, 0)) (by (with_reducible repeat (first | refine blk_drewN ?_ _ | refine blk_drew ?_ | refine blk_alloc ?_ _)); exact BK551.out) hb); have n1_ := Aside0.mk (blk_below (g := gb552) (o := .cells #[.int .u64 t549, .int .u64 t550] 24 (0, 0)) (by (with_reducible repeat (first | refine blk_drewN ?_ _ | refine blk_drew ?_ | refine blk_alloc ?_ _)); exact BK552.out) hb); have n2_ := Aside0.mk (below_step (by repeat (first | (with_reducible first | exact HB.out | apply below_alloc | apply pw_below_drewN | apply below_drew1 | refine below_set ?_ GE551.out | refine below_set ?_ GE552.out) | exact HB.out)) hb); clear BK551; clear BK552; clear HB; have BK551 := n0_; have BK552 := n1_; have HB := n2_; clear n0_ n1_ n2_; (try clear hb); (try clear hb2); (try clear hk); (try clear hi)) | (go_at_call 13; (with_reducible refine (tnum_Has.calls t568 t569 (Go.bits .or .u64 t553 t554) true _ A76.out).mono ?_); rintro e w132 ⟨rfl, hb⟩; have n0_ := Aside0.mk (blk_below (g := gb551) (o := .cells #[.int .u64 t547, .int .u64 t548] 24 (0, 0)) (by (with_reducible repeat (first | refine blk_drewN ?_ _ | refine blk_drew ?_ | refine blk_alloc ?_ _)); exact BK551.out) hb); have n1_ := Aside0.mk (blk_below (g := gb552) (o := .cells #[.int .u64 t549, .int .u64 t550] 24 (0, 0)) (by (with_reducible repeat (first | refine blk_drewN ?_ _ | refine blk_drew ?_ | refine blk_alloc ?_ _)); exact BK552.out) hb); have n2_ := Aside0.mk (below_step (by repeat (first | (with_reducible first | exact HB.out | apply below_alloc | apply pw_below_drewN | apply below_drew1 | refine below_set ?_ GE551.out | refine below_set ?_ GE552.out) | exact HB.out)) hb); clear BK551; clear BK552; clear HB; have BK551 := n0_; have BK552 := n1_; have HB := n2_; clear n0_ n1_ n2_; (try clear hb); (try clear hb2); (try clear hk); (try clear hi); have hcz133_0 : w132.cell? ⟨gb551, 0, none⟩ = some (.int .u64 t547) := (blk_cell BK551.out 0).trans rfl; have hcz133_1 : w132.cell? ⟨gb551, 1, none⟩ = some (.int .u64 t548) := (blk_cell BK551.out 1).trans rfl; have hfz133_0 := blk_frozen BK551.out 0; have hfz133_1 := blk_frozen BK551.out 1; have hcz134_0 : w132.cell? ⟨gb552, 0, none⟩ = some (.int .u64 t549) := (blk_cell BK552.out 0).trans rfl; have hcz134_1 : w132.cell? ⟨gb552, 1, none⟩ = some (.int .u64 t550) := (blk_cell BK552.out 1).trans rfl; have hfz134_0 := blk_frozen BK552.out 0; have hfz134_1 := blk_frozen BK552.out 1) | (go_at_call 36; (with_reducible refine (tnum_Xor.calls t547 t548 t549 t550 t571 t572 _ A78.out).mono ?_); rintro e w135 ⟨rfl, hb⟩; have n0_ := Aside0.mk (blk_below (g := gb551) (o := .cells #[.int .u64 t547, .int .u64 t548] 24 (0, 0)) (by (with_reducible repeat (first | refine blk_drewN ?_ _ | refine blk_drew ?_ | refine blk_alloc ?_ _)); exact BK551.out) hb); have n1_ := Aside0.mk (blk_below (g := gb552) (o := .cells #[.int .u64 t549, .int .u64 t550] 24 (0, 0)) (by (with_reducible repeat (first | refine blk_drewN ?_ _ | refine blk_drew ?_ | refine blk_alloc ?_ _)); exact BK552.out) hb); have n2_ := Aside0.mk (below_step (by repeat (first | (with_reducible first | exact HB.out | apply below_alloc | apply pw_below_drewN | apply below_drew1 | refine below_set ?_ GE551.out | refine below_set ?_ GE552.out) | exact HB.out)) hb); clear BK551; clear BK552; clear HB; have BK551 := n0_; have BK552 := n1_; have HB := n2_; clear n0_ n1_ n2_; (try clear hb); (try clear hb2); (try clear hk); (try clear hi)) | (go_at_call 13; (with_reducible refine (tnum_Has.calls t571 t572 (Go.bits .xor .u64 t553 t554) false _ A79.out).mono ?_); rintro e w136 ⟨rfl, hb⟩; have n0_ := Aside0.mk (blk_below (g := gb551) (o := .cells #[.int .u64 t547, .int .u64 t548] 24 (0, 0)) (by (with_reducible repeat (first | refine blk_drewN ?_ _ | refine blk_drew ?_ | refine blk_alloc ?_ _)); exact BK551.out) hb); have n1_ := Aside0.mk (blk_below (g := gb552) (o := .cells #[.int .u64 t549, .int .u64 t550] 24 (0, 0)) (by (with_reducible repeat (first | refine blk_drewN ?_ _ | refine blk_drew ?_ | refine blk_alloc ?_ _)); exact BK552.out) hb); have n2_ := Aside0.mk (below_step (by repeat (first | (with_reducible first | exact HB.out | apply below_alloc | apply pw_below_drewN | apply below_drew1 | refine below_set ?_ GE551.out | refine below_set ?_ GE552.out) | exact HB.out)) hb); clear BK551; clear BK552; clear HB; have BK551 := n0_; have BK552 := n1_; have HB := n2_; clear n0_ n1_ n2_; (try clear hb); (try clear hb2); (try clear hk); (try clear hi)))
                go_meet
                case rel => exact ⟨_, (true), (by first | rfl | (simp; done) | (simp [*]; done)), H', ⟨by have := HJ11.out; first | omega | exact Nat.le_refl _⟩, ⟨by (with_reducible repeat (first | refine blk_drewN ?_ _ | refine blk_drew ?_ | refine blk_alloc ?_ _)); exact BK551.out⟩, ⟨by (with_reducible repeat (first | refine blk_drewN ?_ _ | refine blk_drew ?_ | refine blk_alloc ?_ _)); exact BK552.out⟩, ⟨by repeat (first | (with_reducible first | exact HB.out | apply below_alloc | apply pw_below_drewN | apply below_drew1 | refine below_set ?_ GE551.out | refine below_set ?_ GE552.out) | exact HB.out)⟩⟩
            · replace c77 := Bool.eq_false_iff.mpr c77
              subst c77
              have H1 : (wardenlaw03_TnumSound.j1 kj11 a4 a5 t553 (IntKind.u64.wrap (a6)) true t547 t548 t549 t550) = some r := by rw [if_neg (show ¬ (false = true) by decide)] at H; exact H
              clear H
              have H := H1
              clear H1
              have H' := Aside0.mk H
              clear H
              have hnb137 := NB551_552.out
              have hnc137 := NB552_551.out
              have hcz138_0 : wc.cell? ⟨gb551, 0, none⟩ = some (.int .u64 t547) := (blk_cell BK551.out 0).trans rfl
              have hcz138_1 : wc.cell? ⟨gb551, 1, none⟩ = some (.int .u64 t548) := (blk_cell BK551.out 1).trans rfl
              have hfz138_0 := blk_frozen BK551.out 0
              have hfz138_1 := blk_frozen BK551.out 1
              have hcz139_0 : wc.cell? ⟨gb552, 0, none⟩ = some (.int .u64 t549) := (blk_cell BK552.out 0).trans rfl
              have hcz139_1 : wc.cell? ⟨gb552, 1, none⟩ = some (.int .u64 t550) := (blk_cell BK552.out 1).trans rfl
              have hfz139_0 := blk_frozen BK552.out 0
              have hfz139_1 := blk_frozen BK552.out 1
              go_wp2_with (first | ((with_reducible refine gate_callee (f := 27) rfl ?_); refine goesL_ (some 77) rfl rfl Try.func27 (by kernel_rfl) rfl #[.agg #[.int .u64 t547, .int .u64 t548], .agg #[.int .u64 t549, .int .u64 t550]] rfl (by (try simp only [List.map_toArray, List.map_cons, List.map_nil]); first | done | rfl | (simp only [List.length_drop, List.length_take]; rfl)) ?_; (with_reducible refine (tnum_And.calls t547 t548 t549 t550 t565 t566 _ A72.out).mono ?_); rintro e w140 ⟨rfl, hb⟩; refine ⟨_, rfl, ?_⟩; have n0_ := Aside0.mk (blk_below (g := gb551) (o := .cells #[.int .u64 t547, .int .u64 t548] 24 (0, 0)) (by (with_reducible repeat (first | refine blk_drewN ?_ _ | refine blk_drew ?_ | refine blk_alloc ?_ _)); exact BK551.out) hb); have n1_ := Aside0.mk (blk_below (g := gb552) (o := .cells #[.int .u64 t549, .int .u64 t550] 24 (0, 0)) (by (with_reducible repeat (first | refine blk_drewN ?_ _ | refine blk_drew ?_ | refine blk_alloc ?_ _)); exact BK552.out) hb); have n2_ := Aside0.mk (below_step (by repeat (first | (with_reducible first | exact HB.out | apply below_alloc | apply pw_below_drewN | apply below_drew1 | refine below_set ?_ GE551.out | refine below_set ?_ GE552.out) | exact HB.out)) hb); clear BK551; clear BK552; clear HB; have BK551 := n0_; have BK552 := n1_; have HB := n2_; clear n0_ n1_ n2_; (try clear hb); (try clear hb2); (try clear hk); (try clear hi)) | ((with_reducible refine gate_callee (f := 13) rfl ?_); refine goesL_ (some 81) rfl rfl Try.func13 (by kernel_rfl) rfl #[.agg #[.int .u64 t565, .int .u64 t566], .int .u64 (Go.bits .and .u64 t553 t554)] rfl (by (try simp only [List.map_toArray, List.map_cons, List.map_nil]); first | done | rfl | (simp only [List.length_drop, List.length_take]; rfl)) ?_; (with_reducible refine (tnum_Has.calls t565 t566 (Go.bits .and .u64 t553 t554) true _ A73.out).mono ?_); rintro e w141 ⟨rfl, hb⟩; refine ⟨_, rfl, ?_⟩; have n0_ := Aside0.mk (blk_below (g := gb551) (o := .cells #[.int .u64 t547, .int .u64 t548] 24 (0, 0)) (by (with_reducible repeat (first | refine blk_drewN ?_ _ | refine blk_drew ?_ | refine blk_alloc ?_ _)); exact BK551.out) hb); have n1_ := Aside0.mk (blk_below (g := gb552) (o := .cells #[.int .u64 t549, .int .u64 t550] 24 (0, 0)) (by (with_reducible repeat (first | refine blk_drewN ?_ _ | refine blk_drew ?_ | refine blk_alloc ?_ _)); exact BK552.out) hb); have n2_ := Aside0.mk (below_step (by repeat (first | (with_reducible first | exact HB.out | apply below_alloc | apply pw_below_drewN | apply below_drew1 | refine below_set ?_ GE551.out | refine below_set ?_ GE552.out) | exact HB.out)) hb); clear BK551; clear BK552; clear HB; have BK551 := n0_; have BK552 := n1_; have HB := n2_; clear n0_ n1_ n2_; (try clear hb); (try clear hb2); (try clear hk); (try clear hi); have hcz142_0 : w141.cell? ⟨gb551, 0, none⟩ = some (.int .u64 t547) := (blk_cell BK551.out 0).trans rfl; have hcz142_1 : w141.cell? ⟨gb551, 1, none⟩ = some (.int .u64 t548) := (blk_cell BK551.out 1).trans rfl; have hfz142_0 := blk_frozen BK551.out 0; have hfz142_1 := blk_frozen BK551.out 1; have hcz143_0 : w141.cell? ⟨gb552, 0, none⟩ = some (.int .u64 t549) := (blk_cell BK552.out 0).trans rfl; have hcz143_1 : w141.cell? ⟨gb552, 1, none⟩ = some (.int .u64 t550) := (blk_cell BK552.out 1).trans rfl; have hfz143_0 := blk_frozen BK552.out 0; have hfz143_1 := blk_frozen BK552.out 1) | (go_at_call 35; (with_reducible refine (tnum_Or.calls t547 t548 t549 t550 t568 t569 _ A75.out).mono ?_); rintro e w144 ⟨rfl, hb⟩; have n0_ := Aside0.mk (blk_below (g := gb551) (o := .cells #[.int .u64 t547, .int .u64 t548] 24 (0, 0)) (by (with_reducible repeat (first | refine blk_drewN ?_ _ | refine blk_drew ?_ | refine blk_alloc ?_ _)); exact BK551.out) hb); have n1_ := Aside0.mk (blk_below (g := gb552) (o := .cells #[.int .u64 t549, .int .u64 t550] 24 (0, 0)) (by (with_reducible repeat (first | refine blk_drewN ?_ _ | refine blk_drew ?_ | refine blk_alloc ?_ _)); exact BK552.out) hb); have n2_ := Aside0.mk (below_step (by repeat (first | (with_reducible first | exact HB.out | apply below_alloc | apply pw_below_drewN | apply below_drew1 | refine below_set ?_ GE551.out | refine below_set ?_ GE552.out) | exact HB.out)) hb); clear BK551; clear BK552; clear HB; have BK551 := n0_; have BK552 := n1_; have HB := n2_; clear n0_ n1_ n2_; (try clear hb); (try clear hb2); (try clear hk); (try clear hi)) | (go_at_call 13; (with_reducible refine (tnum_Has.calls t568 t569 (Go.bits .or .u64 t553 t554) false _ A76.out).mono ?_); rintro e w145 ⟨rfl, hb⟩; have n0_ := Aside0.mk (blk_below (g := gb551) (o := .cells #[.int .u64 t547, .int .u64 t548] 24 (0, 0)) (by (with_reducible repeat (first | refine blk_drewN ?_ _ | refine blk_drew ?_ | refine blk_alloc ?_ _)); exact BK551.out) hb); have n1_ := Aside0.mk (blk_below (g := gb552) (o := .cells #[.int .u64 t549, .int .u64 t550] 24 (0, 0)) (by (with_reducible repeat (first | refine blk_drewN ?_ _ | refine blk_drew ?_ | refine blk_alloc ?_ _)); exact BK552.out) hb); have n2_ := Aside0.mk (below_step (by repeat (first | (with_reducible first | exact HB.out | apply below_alloc | apply pw_below_drewN | apply below_drew1 | refine below_set ?_ GE551.out | refine below_set ?_ GE552.out) | exact HB.out)) hb); clear BK551; clear BK552; clear HB; have BK551 := n0_; have BK552 := n1_; have HB := n2_; clear n0_ n1_ n2_; (try clear hb); (try clear hb2); (try clear hk); (try clear hi)))
              go_meet
              case rel => exact ⟨_, (true), (by first | rfl | (simp; done) | (simp [*]; done)), H', ⟨by have := HJ11.out; first | omega | exact Nat.le_refl _⟩, ⟨by (with_reducible repeat (first | refine blk_drewN ?_ _ | refine blk_drew ?_ | refine blk_alloc ?_ _)); exact BK551.out⟩, ⟨by (with_reducible repeat (first | refine blk_drewN ?_ _ | refine blk_drew ?_ | refine blk_alloc ?_ _)); exact BK552.out⟩, ⟨by repeat (first | (with_reducible first | exact HB.out | apply below_alloc | apply pw_below_drewN | apply below_drew1 | refine below_set ?_ GE551.out | refine below_set ?_ GE552.out) | exact HB.out)⟩⟩
          · replace c74 := Bool.eq_false_iff.mpr c74
            subst c74
            have H1 : (wardenlaw03_TnumSound.j1 kj11 a4 a5 t553 (IntKind.u64.wrap (a6)) true t547 t548 t549 t550) = some r := by rw [if_neg (show ¬ (false = true) by decide)] at H; exact H
            clear H
            have H := H1
            clear H1
            have H' := Aside0.mk H
            clear H
            have hnb146 := NB551_552.out
            have hnc146 := NB552_551.out
            have hcz147_0 : wc.cell? ⟨gb551, 0, none⟩ = some (.int .u64 t547) := (blk_cell BK551.out 0).trans rfl
            have hcz147_1 : wc.cell? ⟨gb551, 1, none⟩ = some (.int .u64 t548) := (blk_cell BK551.out 1).trans rfl
            have hfz147_0 := blk_frozen BK551.out 0
            have hfz147_1 := blk_frozen BK551.out 1
            have hcz148_0 : wc.cell? ⟨gb552, 0, none⟩ = some (.int .u64 t549) := (blk_cell BK552.out 0).trans rfl
            have hcz148_1 : wc.cell? ⟨gb552, 1, none⟩ = some (.int .u64 t550) := (blk_cell BK552.out 1).trans rfl
            have hfz148_0 := blk_frozen BK552.out 0
            have hfz148_1 := blk_frozen BK552.out 1
            go_wp2_with (first | ((with_reducible refine gate_callee (f := 27) rfl ?_); refine goesL_ (some 77) rfl rfl Try.func27 (by kernel_rfl) rfl #[.agg #[.int .u64 t547, .int .u64 t548], .agg #[.int .u64 t549, .int .u64 t550]] rfl (by (try simp only [List.map_toArray, List.map_cons, List.map_nil]); first | done | rfl | (simp only [List.length_drop, List.length_take]; rfl)) ?_; (with_reducible refine (tnum_And.calls t547 t548 t549 t550 t565 t566 _ A72.out).mono ?_); rintro e w149 ⟨rfl, hb⟩; refine ⟨_, rfl, ?_⟩; have n0_ := Aside0.mk (blk_below (g := gb551) (o := .cells #[.int .u64 t547, .int .u64 t548] 24 (0, 0)) (by (with_reducible repeat (first | refine blk_drewN ?_ _ | refine blk_drew ?_ | refine blk_alloc ?_ _)); exact BK551.out) hb); have n1_ := Aside0.mk (blk_below (g := gb552) (o := .cells #[.int .u64 t549, .int .u64 t550] 24 (0, 0)) (by (with_reducible repeat (first | refine blk_drewN ?_ _ | refine blk_drew ?_ | refine blk_alloc ?_ _)); exact BK552.out) hb); have n2_ := Aside0.mk (below_step (by repeat (first | (with_reducible first | exact HB.out | apply below_alloc | apply pw_below_drewN | apply below_drew1 | refine below_set ?_ GE551.out | refine below_set ?_ GE552.out) | exact HB.out)) hb); clear BK551; clear BK552; clear HB; have BK551 := n0_; have BK552 := n1_; have HB := n2_; clear n0_ n1_ n2_; (try clear hb); (try clear hb2); (try clear hk); (try clear hi)) | ((with_reducible refine gate_callee (f := 13) rfl ?_); refine goesL_ (some 81) rfl rfl Try.func13 (by kernel_rfl) rfl #[.agg #[.int .u64 t565, .int .u64 t566], .int .u64 (Go.bits .and .u64 t553 t554)] rfl (by (try simp only [List.map_toArray, List.map_cons, List.map_nil]); first | done | rfl | (simp only [List.length_drop, List.length_take]; rfl)) ?_; (with_reducible refine (tnum_Has.calls t565 t566 (Go.bits .and .u64 t553 t554) false _ A73.out).mono ?_); rintro e w150 ⟨rfl, hb⟩; refine ⟨_, rfl, ?_⟩; have n0_ := Aside0.mk (blk_below (g := gb551) (o := .cells #[.int .u64 t547, .int .u64 t548] 24 (0, 0)) (by (with_reducible repeat (first | refine blk_drewN ?_ _ | refine blk_drew ?_ | refine blk_alloc ?_ _)); exact BK551.out) hb); have n1_ := Aside0.mk (blk_below (g := gb552) (o := .cells #[.int .u64 t549, .int .u64 t550] 24 (0, 0)) (by (with_reducible repeat (first | refine blk_drewN ?_ _ | refine blk_drew ?_ | refine blk_alloc ?_ _)); exact BK552.out) hb); have n2_ := Aside0.mk (below_step (by repeat (first | (with_reducible first | exact HB.out | apply below_alloc | apply pw_below_drewN | apply below_drew1 | refine below_set ?_ GE551.out | refine below_set ?_ GE552.out) | exact HB.out)) hb); clear BK551; clear BK552; clear HB; have BK551 := n0_; have BK552 := n1_; have HB := n2_; clear n0_ n1_ n2_; (try clear hb); (try clear hb2); (try clear hk); (try clear hi)))
            go_meet
            case rel => exact ⟨_, (true), (by first | rfl | (simp; done) | (simp [*]; done)), H', ⟨by have := HJ11.out; first | omega | exact Nat.le_refl _⟩, ⟨by (with_reducible repeat (first | refine blk_drewN ?_ _ | refine blk_drew ?_ | refine blk_alloc ?_ _)); exact BK551.out⟩, ⟨by (with_reducible repeat (first | refine blk_drewN ?_ _ | refine blk_drew ?_ | refine blk_alloc ?_ _)); exact BK552.out⟩, ⟨by repeat (first | (with_reducible first | exact HB.out | apply below_alloc | apply pw_below_drewN | apply below_drew1 | refine below_set ?_ GE551.out | refine below_set ?_ GE552.out) | exact HB.out)⟩⟩
        case rest => as_aux_lemma =>
          clear HC71
          try clear c1
          try clear c2
          try clear p2
          try clear c3
          try clear c4
          try clear c6
          try clear c7
          try clear c8
          try clear c9
          try clear c10
          try clear c12
          try clear c13
          try clear c14
          try clear c17
          try clear c25
          try clear c27
          try clear c28
          try clear c31
          try clear c34
          try clear c38
          try clear c49
          try clear c60
          try clear c67
          try clear c70
          try clear c74
          try clear c77
          try clear c80
          try clear c83
          try clear c86
          try clear c107
          try clear c124
          try clear c137
          try clear c146
          try clear hcz100_0
          try clear hcz100_1
          try clear hcz103_0
          try clear hcz103_1
          try clear hcz104_0
          try clear hcz104_1
          try clear hcz108_0
          try clear hcz108_1
          try clear hcz109_0
          try clear hcz109_1
          try clear hcz112_0
          try clear hcz112_1
          try clear hcz113_0
          try clear hcz113_1
          try clear hcz116_0
          try clear hcz116_1
          try clear hcz117_0
          try clear hcz117_1
          try clear hcz120_0
          try clear hcz120_1
          try clear hcz121_0
          try clear hcz121_1
          try clear hcz125_0
          try clear hcz125_1
          try clear hcz126_0
          try clear hcz126_1
          try clear hcz129_0
          try clear hcz129_1
          try clear hcz130_0
          try clear hcz130_1
          try clear hcz133_0
          try clear hcz133_1
          try clear hcz134_0
          try clear hcz134_1
          try clear hcz138_0
          try clear hcz138_1
          try clear hcz139_0
          try clear hcz139_1
          try clear hcz142_0
          try clear hcz142_1
          try clear hcz143_0
          try clear hcz143_1
          try clear hcz147_0
          try clear hcz147_1
          try clear hcz148_0
          try clear hcz148_1
          try clear hcz18_0
          try clear hcz18_1
          try clear hcz19_0
          try clear hcz19_1
          try clear hcz35_0
          try clear hcz35_1
          try clear hcz37_0
          try clear hcz37_1
          try clear hcz38_0
          try clear hcz38_1
          try clear hcz41_0
          try clear hcz41_1
          try clear hcz42_0
          try clear hcz42_1
          try clear hcz45_0
          try clear hcz45_1
          try clear hcz46_0
          try clear hcz46_1
          try clear hcz50_0
          try clear hcz50_1
          try clear hcz52_0
          try clear hcz52_1
          try clear hcz53_0
          try clear hcz53_1
          try clear hcz56_0
          try clear hcz56_1
          try clear hcz57_0
          try clear hcz57_1
          try clear hcz61_0
          try clear hcz61_1
          try clear hcz63_0
          try clear hcz63_1
          try clear hcz64_0
          try clear hcz64_1
          try clear hcz68_0
          try clear hcz68_1
          try clear hcz87_0
          try clear hcz87_1
          try clear hcz88_0
          try clear hcz88_1
          try clear hcz91_0
          try clear hcz91_1
          try clear hcz92_0
          try clear hcz92_1
          try clear hcz95_0
          try clear hcz95_1
          try clear hcz96_0
          try clear hcz96_1
          try clear hcz99_0
          try clear hcz99_1
          try clear hfz100_0
          try clear hfz100_1
          try clear hfz103_0
          try clear hfz103_1
          try clear hfz104_0
          try clear hfz104_1
          try clear hfz108_0
          try clear hfz108_1
          try clear hfz109_0
          try clear hfz109_1
          try clear hfz112_0
          try clear hfz112_1
          try clear hfz113_0
          try clear hfz113_1
          try clear hfz116_0
          try clear hfz116_1
          try clear hfz117_0
          try clear hfz117_1
          try clear hfz120_0
          try clear hfz120_1
          try clear hfz121_0
          try clear hfz121_1
          try clear hfz125_0
          try clear hfz125_1
          try clear hfz126_0
          try clear hfz126_1
          try clear hfz129_0
          try clear hfz129_1
          try clear hfz130_0
          try clear hfz130_1
          try clear hfz133_0
          try clear hfz133_1
          try clear hfz134_0
          try clear hfz134_1
          try clear hfz138_0
          try clear hfz138_1
          try clear hfz139_0
          try clear hfz139_1
          try clear hfz142_0
          try clear hfz142_1
          try clear hfz143_0
          try clear hfz143_1
          try clear hfz147_0
          try clear hfz147_1
          try clear hfz148_0
          try clear hfz148_1
          try clear hfz18_0
          try clear hfz18_1
          try clear hfz19_0
          try clear hfz19_1
          try clear hfz35_0
          try clear hfz35_1
          try clear hfz37_0
          try clear hfz37_1
          try clear hfz38_0
          try clear hfz38_1
          try clear hfz41_0
          try clear hfz41_1
          try clear hfz42_0
          try clear hfz42_1
          try clear hfz45_0
          try clear hfz45_1
          try clear hfz46_0
          try clear hfz46_1
          try clear hfz50_0
          try clear hfz50_1
          try clear hfz52_0
          try clear hfz52_1
          try clear hfz53_0
          try clear hfz53_1
          try clear hfz56_0
          try clear hfz56_1
          try clear hfz57_0
          try clear hfz57_1
          try clear hfz61_0
          try clear hfz61_1
          try clear hfz63_0
          try clear hfz63_1
          try clear hfz64_0
          try clear hfz64_1
          try clear hfz68_0
          try clear hfz68_1
          try clear hfz87_0
          try clear hfz87_1
          try clear hfz88_0
          try clear hfz88_1
          try clear hfz91_0
          try clear hfz91_1
          try clear hfz92_0
          try clear hfz92_1
          try clear hfz95_0
          try clear hfz95_1
          try clear hfz96_0
          try clear hfz96_1
          try clear hfz99_0
          try clear hfz99_1
          try clear p2
          obtain ⟨kq, x118_70, rfl, HA, HJ70, BK551, BK552, HB⟩ := hcut
          cases kq with
          | zero => exact absurd HA.out (by simp [wardenlaw03_TnumSound.j1])
          | succ kj70 =>
            have H := HA.out
            clear HA
            simp only [wardenlaw03_TnumSound.j1] at H
            by_cases c151 : x118_70 = true
            · subst c151
              have H1 : (some false) = some r := by rw [if_pos rfl] at H; exact H
              clear H
              have H := H1
              clear H1
              obtain rfl := Option.some.inj H
              go_wp2
              go_ret
              exact ⟨by first | rfl | (simp [errW_none, errW_some] <;> rfl) | (simp [*, errW_none, errW_some] <;> rfl), by repeat (first | (with_reducible first | exact HB.out | apply below_alloc | apply pw_below_drewN | apply below_drew1 | refine below_set ?_ GE551.out | refine below_set ?_ GE552.out) | exact HB.out)⟩
            · replace c151 := Bool.eq_false_iff.mpr c151
              subst c151
              have H1 : ((tnum_Shl.f t547 t548 (IntKind.u64.wrap (a6))).bind fun bt580 => (if 0 ≤ (IntKind.u64.wrap (a6)) then ((tnum_Has.f bt580.1 bt580.2 (shl .u64 t553 (IntKind.u64.wrap (a6)))).bind fun t582 => (if t582 = true then ((tnum_Shr.f t547 t548 (IntKind.u64.wrap (a6))).bind fun bt583 => ((tnum_Has.f bt583.1 bt583.2 (shr .u64 t553 (IntKind.u64.wrap (a6)))).bind fun t585 => (if t585 = true then ((tnum_Sar.f t547 t548 (IntKind.u64.wrap (a6))).bind fun bt586 => ((tnum_Has.f bt586.1 bt586.2 (IntKind.u64.wrap (shr .i64 (wrap64 (t553)) (IntKind.u64.wrap (a6))))).bind fun t588 => (wardenlaw03_TnumSound.j2 kj70 a4 a5 t553 (IntKind.u64.wrap (a6)) (!t588) t547 t548 t549 t550))) else (wardenlaw03_TnumSound.j2 kj70 a4 a5 t553 (IntKind.u64.wrap (a6)) true t547 t548 t549 t550)))) else (wardenlaw03_TnumSound.j2 kj70 a4 a5 t553 (IntKind.u64.wrap (a6)) true t547 t548 t549 t550))) else (none))) = some r := by rw [if_neg (show ¬ (false = true) by decide)] at H; exact H
              clear H
              have H := H1
              clear H1
              have HC152 := Aside0.mk H
              clear H
              go_upto_region 8 with (fail)
              go_cut [148] (fun v148 wc => ∃ (kq : Nat) (x148_151 : Bool), v148 = .bool x148_151 ∧ Aside0 (wardenlaw03_TnumSound.j2 kq a4 a5 t553 (IntKind.u64.wrap (a6)) x148_151 t547 t548 t549 t550 = some r) ∧ Aside0 (kq ≤ kj70) ∧ Aside0 (wc.heap[gb551]? = some (.cells #[.int .u64 t547, .int .u64 t548] 24 (0, 0))) ∧ Aside0 (wc.heap[gb552]? = some (.cells #[.int .u64 t549, .int .u64 t550] 24 (0, 0))) ∧ Aside0 (Below w.heap.size w wc))
              case first => as_aux_lemma =>
                have H := HC152.out
                clear HC152
                replace H := Option.bind_eq_some_iff.mp H
                obtain ⟨⟨t580, t581⟩, A1530, H⟩ := H
                replace H : (if 0 ≤ (IntKind.u64.wrap (a6)) then ((tnum_Has.f t580 t581 (shl .u64 t553 (IntKind.u64.wrap (a6)))).bind fun t582 => (if t582 = true then ((tnum_Shr.f t547 t548 (IntKind.u64.wrap (a6))).bind fun bt583 => ((tnum_Has.f bt583.1 bt583.2 (shr .u64 t553 (IntKind.u64.wrap (a6)))).bind fun t585 => (if t585 = true then ((tnum_Sar.f t547 t548 (IntKind.u64.wrap (a6))).bind fun bt586 => ((tnum_Has.f bt586.1 bt586.2 (IntKind.u64.wrap (shr .i64 (wrap64 (t553)) (IntKind.u64.wrap (a6))))).bind fun t588 => (wardenlaw03_TnumSound.j2 kj70 a4 a5 t553 (IntKind.u64.wrap (a6)) (!t588) t547 t548 t549 t550))) else (wardenlaw03_TnumSound.j2 kj70 a4 a5 t553 (IntKind.u64.wrap (a6)) true t547 t548 t549 t550)))) else (wardenlaw03_TnumSound.j2 kj70 a4 a5 t553 (IntKind.u64.wrap (a6)) true t547 t548 t549 t550))) else (none)) = some r := H
                have A153 := Aside0.mk A1530
                clear A1530
                obtain ⟨ji154, hji154⟩ : ∃ j_ : Int, (IntKind.u64.wrap (a6)) = j_ := ⟨_, rfl⟩
                replace H : (if 0 ≤ (ji154) then ((tnum_Has.f t580 t581 (shl .u64 t553 (ji154))).bind fun t582 => (if t582 = true then ((tnum_Shr.f t547 t548 (ji154)).bind fun bt583 => ((tnum_Has.f bt583.1 bt583.2 (shr .u64 t553 (ji154))).bind fun t585 => (if t585 = true then ((tnum_Sar.f t547 t548 (ji154)).bind fun bt586 => ((tnum_Has.f bt586.1 bt586.2 (IntKind.u64.wrap (shr .i64 (wrap64 (t553)) (ji154)))).bind fun t588 => (wardenlaw03_TnumSound.j2 kj70 a4 a5 t553 (ji154) (!t588) t547 t548 t549 t550))) else (wardenlaw03_TnumSound.j2 kj70 a4 a5 t553 (ji154) true t547 t548 t549 t550)))) else (wardenlaw03_TnumSound.j2 kj70 a4 a5 t553 (ji154) true t547 t548 t549 t550))) else (none)) = some r := by first | (rw [hji154] at H; exact H) | (simp only [hji154] at H ⊢; exact H)
                (try rw [hji154] at A153)
                by_cases c155 : 0 ≤ (ji154)
                · rw [if_pos c155] at H
                  have c155b0 := eq_true c155
                  have c155b1 : decide (0 ≤ (ji154)) = true := decide_eq_true c155
                  clear c155
                  obtain ⟨ji156, hji156⟩ : ∃ j_ : Int, (shl .u64 t553 (ji154)) = j_ := ⟨_, rfl⟩
                  replace H : ((tnum_Has.f t580 t581 (ji156)).bind fun t582 => (if t582 = true then ((tnum_Shr.f t547 t548 (ji154)).bind fun bt583 => ((tnum_Has.f bt583.1 bt583.2 (shr .u64 t553 (ji154))).bind fun t585 => (if t585 = true then ((tnum_Sar.f t547 t548 (ji154)).bind fun bt586 => ((tnum_Has.f bt586.1 bt586.2 (IntKind.u64.wrap (shr .i64 (wrap64 (t553)) (ji154)))).bind fun t588 => (wardenlaw03_TnumSound.j2 kj70 a4 a5 t553 (ji154) (!t588) t547 t548 t549 t550))) else (wardenlaw03_TnumSound.j2 kj70 a4 a5 t553 (ji154) true t547 t548 t549 t550)))) else (wardenlaw03_TnumSound.j2 kj70 a4 a5 t553 (ji154) true t547 t548 t549 t550))) = some r := by first | (rw [hji156] at H; exact H) | (simp only [hji156] at H ⊢; exact H)
                  (try rw [hji156] at A153)
                  have hji156_ : (IntKind.u64.wrap (t553 * 2 ^ min (ji154).toNat 64)) = ji156 := hji156
                  have hji156z : (ji154) ≤ 64 → (IntKind.u64.wrap (t553 * 2 ^ (ji154).toNat)) = ji156 := shl_small hji156
                  replace H := Option.bind_eq_some_iff.mp H
                  obtain ⟨t582, A1570, H⟩ := H
                  replace H : (if t582 = true then ((tnum_Shr.f t547 t548 (ji154)).bind fun bt583 => ((tnum_Has.f bt583.1 bt583.2 (shr .u64 t553 (ji154))).bind fun t585 => (if t585 = true then ((tnum_Sar.f t547 t548 (ji154)).bind fun bt586 => ((tnum_Has.f bt586.1 bt586.2 (IntKind.u64.wrap (shr .i64 (wrap64 (t553)) (ji154)))).bind fun t588 => (wardenlaw03_TnumSound.j2 kj70 a4 a5 t553 (ji154) (!t588) t547 t548 t549 t550))) else (wardenlaw03_TnumSound.j2 kj70 a4 a5 t553 (ji154) true t547 t548 t549 t550)))) else (wardenlaw03_TnumSound.j2 kj70 a4 a5 t553 (ji154) true t547 t548 t549 t550)) = some r := H
                  have A157 := Aside0.mk A1570
                  clear A1570
                  by_cases c158 : t582 = true
                  · subst c158
                    have H1 : ((tnum_Shr.f t547 t548 (ji154)).bind fun bt583 => ((tnum_Has.f bt583.1 bt583.2 (shr .u64 t553 (ji154))).bind fun t585 => (if t585 = true then ((tnum_Sar.f t547 t548 (ji154)).bind fun bt586 => ((tnum_Has.f bt586.1 bt586.2 (IntKind.u64.wrap (shr .i64 (wrap64 (t553)) (ji154)))).bind fun t588 => (wardenlaw03_TnumSound.j2 kj70 a4 a5 t553 (ji154) (!t588) t547 t548 t549 t550))) else (wardenlaw03_TnumSound.j2 kj70 a4 a5 t553 (ji154) true t547 t548 t549 t550)))) = some r := by rw [if_pos rfl] at H; exact H
                    clear H
                    have H := H1
                    clear H1
                    replace H := Option.bind_eq_some_iff.mp H
                    obtain ⟨⟨t583, t584⟩, A1590, H⟩ := H
                    replace H : ((tnum_Has.f t583 t584 (shr .u64 t553 (ji154))).bind fun t585 => (if t585 = true then ((tnum_Sar.f t547 t548 (ji154)).bind fun bt586 => ((tnum_Has.f bt586.1 bt586.2 (IntKind.u64.wrap (shr .i64 (wrap64 (t553)) (ji154)))).bind fun t588 => (wardenlaw03_TnumSound.j2 kj70 a4 a5 t553 (ji154) (!t588) t547 t548 t549 t550))) else (wardenlaw03_TnumSound.j2 kj70 a4 a5 t553 (ji154) true t547 t548 t549 t550))) = some r := H
                    have A159 := Aside0.mk A1590
                    clear A1590
                    have c160b0 := eq_true (of_decide_eq_true (by first | (with_reducible assumption) | assumption) : 0 ≤ (ji154))
                    obtain ⟨ji161, hji161⟩ : ∃ j_ : Int, (shr .u64 t553 (ji154)) = j_ := ⟨_, rfl⟩
                    replace H : ((tnum_Has.f t583 t584 (ji161)).bind fun t585 => (if t585 = true then ((tnum_Sar.f t547 t548 (ji154)).bind fun bt586 => ((tnum_Has.f bt586.1 bt586.2 (IntKind.u64.wrap (shr .i64 (wrap64 (t553)) (ji154)))).bind fun t588 => (wardenlaw03_TnumSound.j2 kj70 a4 a5 t553 (ji154) (!t588) t547 t548 t549 t550))) else (wardenlaw03_TnumSound.j2 kj70 a4 a5 t553 (ji154) true t547 t548 t549 t550))) = some r := by first | (rw [hji161] at H; exact H) | (simp only [hji161] at H ⊢; exact H)
                    (try rw [hji161] at A153)
                    (try rw [hji161] at A157)
                    (try rw [hji161] at A159)
                    have hji161_ : (t553 / 2 ^ min (ji154).toNat 64) = ji161 := hji161
                    have hji161z : (ji154) ≤ 64 → (t553 / 2 ^ (ji154).toNat) = ji161 := shr_small hji161
                    replace H := Option.bind_eq_some_iff.mp H
                    obtain ⟨t585, A1620, H⟩ := H
                    replace H : (if t585 = true then ((tnum_Sar.f t547 t548 (ji154)).bind fun bt586 => ((tnum_Has.f bt586.1 bt586.2 (IntKind.u64.wrap (shr .i64 (wrap64 (t553)) (ji154)))).bind fun t588 => (wardenlaw03_TnumSound.j2 kj70 a4 a5 t553 (ji154) (!t588) t547 t548 t549 t550))) else (wardenlaw03_TnumSound.j2 kj70 a4 a5 t553 (ji154) true t547 t548 t549 t550)) = some r := H
                    have A162 := Aside0.mk A1620
                    clear A1620
                    by_cases c163 : t585 = true
                    · subst c163
                      have H1 : ((tnum_Sar.f t547 t548 (ji154)).bind fun bt586 => ((tnum_Has.f bt586.1 bt586.2 (IntKind.u64.wrap (shr .i64 (wrap64 (t553)) (ji154)))).bind fun t588 => (wardenlaw03_TnumSound.j2 kj70 a4 a5 t553 (ji154) (!t588) t547 t548 t549 t550))) = some r := by rw [if_pos rfl] at H; exact H
                      clear H
                      have H := H1
                      clear H1
                      replace H := Option.bind_eq_some_iff.mp H
                      obtain ⟨⟨t586, t587⟩, A1640, H⟩ := H
                      replace H : ((tnum_Has.f t586 t587 (IntKind.u64.wrap (shr .i64 (wrap64 (t553)) (ji154)))).bind fun t588 => (wardenlaw03_TnumSound.j2 kj70 a4 a5 t553 (ji154) (!t588) t547 t548 t549 t550)) = some r := H
                      have A164 := Aside0.mk A1640
                      clear A1640
                      have c165b0 := eq_true (of_decide_eq_true (by first | (with_reducible assumption) | assumption) : 0 ≤ (ji154))
                      obtain ⟨ji166, hji166⟩ : ∃ j_ : Int, (shr .i64 (wrap64 (t553)) (ji154)) = j_ := ⟨_, rfl⟩
                      replace H : ((tnum_Has.f t586 t587 (IntKind.u64.wrap (ji166))).bind fun t588 => (wardenlaw03_TnumSound.j2 kj70 a4 a5 t553 (ji154) (!t588) t547 t548 t549 t550)) = some r := by first | (rw [hji166] at H; exact H) | (simp only [hji166] at H ⊢; exact H)
                      (try rw [hji166] at A153)
                      (try rw [hji166] at A157)
                      (try rw [hji166] at A159)
                      (try rw [hji166] at A162)
                      (try rw [hji166] at A164)
                      have hji166_ : ((wrap64 (t553)) / 2 ^ min (ji154).toNat 64) = ji166 := hji166
                      have hji166z : (ji154) ≤ 64 → ((wrap64 (t553)) / 2 ^ (ji154).toNat) = ji166 := shr_small hji166
                      replace H := Option.bind_eq_some_iff.mp H
                      obtain ⟨t588, A1670, H⟩ := H
                      replace H : (wardenlaw03_TnumSound.j2 kj70 a4 a5 t553 (ji154) (!t588) t547 t548 t549 t550) = some r := H
                      have A167 := Aside0.mk A1670
                      clear A1670
                      have H' := Aside0.mk H
                      clear H
                      have hnb168 := NB551_552.out
                      have hnc168 := NB552_551.out
                      have hcz169_0 : wc.cell? ⟨gb551, 0, none⟩ = some (.int .u64 t547) := (blk_cell BK551.out 0).trans rfl
                      have hcz169_1 : wc.cell? ⟨gb551, 1, none⟩ = some (.int .u64 t548) := (blk_cell BK551.out 1).trans rfl
                      have hfz169_0 := blk_frozen BK551.out 0
                      have hfz169_1 := blk_frozen BK551.out 1
                      go_wp2_with (first | ((with_reducible refine gate_callee (f := 26) rfl ?_); refine goesL_ (some 121) rfl rfl Try.func26 (by kernel_rfl) rfl #[.agg #[.int .u64 t547, .int .u64 t548], .int .u64 (ji154)] rfl (by (try simp only [List.map_toArray, List.map_cons, List.map_nil]); first | done | (simp only [hji154]; rfl) | rfl | (simp only [List.length_drop, List.length_take]; rfl)) ?_; (with_reducible refine (tnum_Shl.calls t547 t548 (ji154) t580 t581 _ A153.out).mono ?_); rintro e w170 ⟨rfl, hb⟩; refine ⟨_, rfl, ?_⟩; have n0_ := Aside0.mk (blk_below (g := gb551) (o := .cells #[.int .u64 t547, .int .u64 t548] 24 (0, 0)) (by (with_reducible repeat (first | refine blk_drewN ?_ _ | refine blk_drew ?_ | refine blk_alloc ?_ _)); exact BK551.out) hb); have n1_ := Aside0.mk (blk_below (g := gb552) (o := .cells #[.int .u64 t549, .int .u64 t550] 24 (0, 0)) (by (with_reducible repeat (first | refine blk_drewN ?_ _ | refine blk_drew ?_ | refine blk_alloc ?_ _)); exact BK552.out) hb); have n2_ := Aside0.mk (below_step (by repeat (first | (with_reducible first | exact HB.out | apply below_alloc | apply pw_below_drewN | apply below_drew1 | refine below_set ?_ GE551.out | refine below_set ?_ GE552.out) | exact HB.out)) hb); clear BK551; clear BK552; clear HB; have BK551 := n0_; have BK552 := n1_; have HB := n2_; clear n0_ n1_ n2_; (try clear hb); (try clear hb2); (try clear hk); (try clear hi)) | ((with_reducible refine gate_callee (f := 13) rfl ?_); refine goesL_ (some 125) rfl rfl Try.func13 (by kernel_rfl) rfl #[.agg #[.int .u64 t580, .int .u64 t581], .int .u64 ji156] rfl (by (try simp only [List.map_toArray, List.map_cons, List.map_nil]); first | done | (simp only [hji156]; rfl) | rfl | (simp only [List.length_drop, List.length_take]; rfl)) ?_; (with_reducible refine (tnum_Has.calls t580 t581 ji156 true _ A157.out).mono ?_); rintro e w171 ⟨rfl, hb⟩; refine ⟨_, rfl, ?_⟩; have n0_ := Aside0.mk (blk_below (g := gb551) (o := .cells #[.int .u64 t547, .int .u64 t548] 24 (0, 0)) (by (with_reducible repeat (first | refine blk_drewN ?_ _ | refine blk_drew ?_ | refine blk_alloc ?_ _)); exact BK551.out) hb); have n1_ := Aside0.mk (blk_below (g := gb552) (o := .cells #[.int .u64 t549, .int .u64 t550] 24 (0, 0)) (by (with_reducible repeat (first | refine blk_drewN ?_ _ | refine blk_drew ?_ | refine blk_alloc ?_ _)); exact BK552.out) hb); have n2_ := Aside0.mk (below_step (by repeat (first | (with_reducible first | exact HB.out | apply below_alloc | apply pw_below_drewN | apply below_drew1 | refine below_set ?_ GE551.out | refine below_set ?_ GE552.out) | exact HB.out)) hb); clear BK551; clear BK552; clear HB; have BK551 := n0_; have BK552 := n1_; have HB := n2_; clear n0_ n1_ n2_; (try clear hb); (try clear hb2); (try clear hk); (try clear hi); have hcz172_0 : w171.cell? ⟨gb551, 0, none⟩ = some (.int .u64 t547) := (blk_cell BK551.out 0).trans rfl; have hcz172_1 : w171.cell? ⟨gb551, 1, none⟩ = some (.int .u64 t548) := (blk_cell BK551.out 1).trans rfl; have hfz172_0 := blk_frozen BK551.out 0; have hfz172_1 := blk_frozen BK551.out 1) | (go_at_call 25; (with_reducible refine (tnum_Shr.calls t547 t548 (ji154) t583 t584 _ A159.out).mono ?_); rintro e w173 ⟨rfl, hb⟩; have n0_ := Aside0.mk (blk_below (g := gb551) (o := .cells #[.int .u64 t547, .int .u64 t548] 24 (0, 0)) (by (with_reducible repeat (first | refine blk_drewN ?_ _ | refine blk_drew ?_ | refine blk_alloc ?_ _)); exact BK551.out) hb); have n1_ := Aside0.mk (blk_below (g := gb552) (o := .cells #[.int .u64 t549, .int .u64 t550] 24 (0, 0)) (by (with_reducible repeat (first | refine blk_drewN ?_ _ | refine blk_drew ?_ | refine blk_alloc ?_ _)); exact BK552.out) hb); have n2_ := Aside0.mk (below_step (by repeat (first | (with_reducible first | exact HB.out | apply below_alloc | apply pw_below_drewN | apply below_drew1 | refine below_set ?_ GE551.out | refine below_set ?_ GE552.out) | exact HB.out)) hb); clear BK551; clear BK552; clear HB; have BK551 := n0_; have BK552 := n1_; have HB := n2_; clear n0_ n1_ n2_; (try clear hb); (try clear hb2); (try clear hk); (try clear hi)) | (go_at_call 13; (with_reducible refine (tnum_Has.calls t583 t584 ji161 true _ A162.out).mono ?_); rintro e w174 ⟨rfl, hb⟩; have n0_ := Aside0.mk (blk_below (g := gb551) (o := .cells #[.int .u64 t547, .int .u64 t548] 24 (0, 0)) (by (with_reducible repeat (first | refine blk_drewN ?_ _ | refine blk_drew ?_ | refine blk_alloc ?_ _)); exact BK551.out) hb); have n1_ := Aside0.mk (blk_below (g := gb552) (o := .cells #[.int .u64 t549, .int .u64 t550] 24 (0, 0)) (by (with_reducible repeat (first | refine blk_drewN ?_ _ | refine blk_drew ?_ | refine blk_alloc ?_ _)); exact BK552.out) hb); have n2_ := Aside0.mk (below_step (by repeat (first | (with_reducible first | exact HB.out | apply below_alloc | apply pw_below_drewN | apply below_drew1 | refine below_set ?_ GE551.out | refine below_set ?_ GE552.out) | exact HB.out)) hb); clear BK551; clear BK552; clear HB; have BK551 := n0_; have BK552 := n1_; have HB := n2_; clear n0_ n1_ n2_; (try clear hb); (try clear hb2); (try clear hk); (try clear hi); have hcz175_0 : w174.cell? ⟨gb551, 0, none⟩ = some (.int .u64 t547) := (blk_cell BK551.out 0).trans rfl; have hcz175_1 : w174.cell? ⟨gb551, 1, none⟩ = some (.int .u64 t548) := (blk_cell BK551.out 1).trans rfl; have hfz175_0 := blk_frozen BK551.out 0; have hfz175_1 := blk_frozen BK551.out 1) | (go_at_call 28; (with_reducible refine (tnum_Sar.calls t547 t548 (ji154) t586 t587 _ A164.out).mono ?_); rintro e w176 ⟨rfl, hb⟩; have n0_ := Aside0.mk (blk_below (g := gb551) (o := .cells #[.int .u64 t547, .int .u64 t548] 24 (0, 0)) (by (with_reducible repeat (first | refine blk_drewN ?_ _ | refine blk_drew ?_ | refine blk_alloc ?_ _)); exact BK551.out) hb); have n1_ := Aside0.mk (blk_below (g := gb552) (o := .cells #[.int .u64 t549, .int .u64 t550] 24 (0, 0)) (by (with_reducible repeat (first | refine blk_drewN ?_ _ | refine blk_drew ?_ | refine blk_alloc ?_ _)); exact BK552.out) hb); have n2_ := Aside0.mk (below_step (by repeat (first | (with_reducible first | exact HB.out | apply below_alloc | apply pw_below_drewN | apply below_drew1 | refine below_set ?_ GE551.out | refine below_set ?_ GE552.out) | exact HB.out)) hb); clear BK551; clear BK552; clear HB; have BK551 := n0_; have BK552 := n1_; have HB := n2_; clear n0_ n1_ n2_; (try clear hb); (try clear hb2); (try clear hk); (try clear hi)) | (go_at_call 13; (with_reducible refine (tnum_Has.calls t586 t587 (IntKind.u64.wrap (ji166)) t588 _ A167.out).mono ?_); rintro e w177 ⟨rfl, hb⟩; have n0_ := Aside0.mk (blk_below (g := gb551) (o := .cells #[.int .u64 t547, .int .u64 t548] 24 (0, 0)) (by (with_reducible repeat (first | refine blk_drewN ?_ _ | refine blk_drew ?_ | refine blk_alloc ?_ _)); exact BK551.out) hb); have n1_ := Aside0.mk (blk_below (g := gb552) (o := .cells #[.int .u64 t549, .int .u64 t550] 24 (0, 0)) (by (with_reducible repeat (first | refine blk_drewN ?_ _ | refine blk_drew ?_ | refine blk_alloc ?_ _)); exact BK552.out) hb); have n2_ := Aside0.mk (below_step (by repeat (first | (with_reducible first | exact HB.out | apply below_alloc | apply pw_below_drewN | apply below_drew1 | refine below_set ?_ GE551.out | refine below_set ?_ GE552.out) | exact HB.out)) hb); clear BK551; clear BK552; clear HB; have BK551 := n0_; have BK552 := n1_; have HB := n2_; clear n0_ n1_ n2_; (try clear hb); (try clear hb2); (try clear hk); (try clear hi)))
                      subst hji154
                      go_meet
                      case rel => exact ⟨_, (!t588), (by first | rfl | (simp; done) | (simp [*]; done)), H', ⟨by have := HJ11.out; have := HJ70.out; first | omega | exact Nat.le_refl _⟩, ⟨by (with_reducible repeat (first | refine blk_drewN ?_ _ | refine blk_drew ?_ | refine blk_alloc ?_ _)); exact BK551.out⟩, ⟨by (with_reducible repeat (first | refine blk_drewN ?_ _ | refine blk_drew ?_ | refine blk_alloc ?_ _)); exact BK552.out⟩, ⟨by repeat (first | (with_reducible first | exact HB.out | apply below_alloc | apply pw_below_drewN | apply below_drew1 | refine below_set ?_ GE551.out | refine below_set ?_ GE552.out) | exact HB.out)⟩⟩
                    · replace c163 := Bool.eq_false_iff.mpr c163
                      subst c163
                      have H1 : (wardenlaw03_TnumSound.j2 kj70 a4 a5 t553 (ji154) true t547 t548 t549 t550) = some r := by rw [if_neg (show ¬ (false = true) by decide)] at H; exact H
                      clear H
                      have H := H1
                      clear H1
                      have H' := Aside0.mk H
                      clear H
                      have hnb178 := NB551_552.out
                      have hnc178 := NB552_551.out
                      have hcz179_0 : wc.cell? ⟨gb551, 0, none⟩ = some (.int .u64 t547) := (blk_cell BK551.out 0).trans rfl
                      have hcz179_1 : wc.cell? ⟨gb551, 1, none⟩ = some (.int .u64 t548) := (blk_cell BK551.out 1).trans rfl
                      have hfz179_0 := blk_frozen BK551.out 0
                      have hfz179_1 := blk_frozen BK551.out 1
                      go_wp2_with (first | ((with_reducible refine gate_callee (f := 26) rfl ?_); refine goesL_ (some 121) rfl rfl Try.func26 (by kernel_rfl) rfl #[.agg #[.int .u64 t547, .int .u64 t548], .int .u64 (ji154)] rfl (by (try simp only [List.map_toArray, List.map_cons, List.map_nil]); first | done | (simp only [hji154]; rfl) | rfl | (simp only [List.length_drop, List.length_take]; rfl)) ?_; (with_reducible refine (tnum_Shl.calls t547 t548 (ji154) t580 t581 _ A153.out).mono ?_); rintro e w180 ⟨rfl, hb⟩; refine ⟨_, rfl, ?_⟩; have n0_ := Aside0.mk (blk_below (g := gb551) (o := .cells #[.int .u64 t547, .int .u64 t548] 24 (0, 0)) (by (with_reducible repeat (first | refine blk_drewN ?_ _ | refine blk_drew ?_ | refine blk_alloc ?_ _)); exact BK551.out) hb); have n1_ := Aside0.mk (blk_below (g := gb552) (o := .cells #[.int .u64 t549, .int .u64 t550] 24 (0, 0)) (by (with_reducible repeat (first | refine blk_drewN ?_ _ | refine blk_drew ?_ | refine blk_alloc ?_ _)); exact BK552.out) hb); have n2_ := Aside0.mk (below_step (by repeat (first | (with_reducible first | exact HB.out | apply below_alloc | apply pw_below_drewN | apply below_drew1 | refine below_set ?_ GE551.out | refine below_set ?_ GE552.out) | exact HB.out)) hb); clear BK551; clear BK552; clear HB; have BK551 := n0_; have BK552 := n1_; have HB := n2_; clear n0_ n1_ n2_; (try clear hb); (try clear hb2); (try clear hk); (try clear hi)) | ((with_reducible refine gate_callee (f := 13) rfl ?_); refine goesL_ (some 125) rfl rfl Try.func13 (by kernel_rfl) rfl #[.agg #[.int .u64 t580, .int .u64 t581], .int .u64 ji156] rfl (by (try simp only [List.map_toArray, List.map_cons, List.map_nil]); first | done | (simp only [hji156]; rfl) | rfl | (simp only [List.length_drop, List.length_take]; rfl)) ?_; (with_reducible refine (tnum_Has.calls t580 t581 ji156 true _ A157.out).mono ?_); rintro e w181 ⟨rfl, hb⟩; refine ⟨_, rfl, ?_⟩; have n0_ := Aside0.mk (blk_below (g := gb551) (o := .cells #[.int .u64 t547, .int .u64 t548] 24 (0, 0)) (by (with_reducible repeat (first | refine blk_drewN ?_ _ | refine blk_drew ?_ | refine blk_alloc ?_ _)); exact BK551.out) hb); have n1_ := Aside0.mk (blk_below (g := gb552) (o := .cells #[.int .u64 t549, .int .u64 t550] 24 (0, 0)) (by (with_reducible repeat (first | refine blk_drewN ?_ _ | refine blk_drew ?_ | refine blk_alloc ?_ _)); exact BK552.out) hb); have n2_ := Aside0.mk (below_step (by repeat (first | (with_reducible first | exact HB.out | apply below_alloc | apply pw_below_drewN | apply below_drew1 | refine below_set ?_ GE551.out | refine below_set ?_ GE552.out) | exact HB.out)) hb); clear BK551; clear BK552; clear HB; have BK551 := n0_; have BK552 := n1_; have HB := n2_; clear n0_ n1_ n2_; (try clear hb); (try clear hb2); (try clear hk); (try clear hi); have hcz182_0 : w181.cell? ⟨gb551, 0, none⟩ = some (.int .u64 t547) := (blk_cell BK551.out 0).trans rfl; have hcz182_1 : w181.cell? ⟨gb551, 1, none⟩ = some (.int .u64 t548) := (blk_cell BK551.out 1).trans rfl; have hfz182_0 := blk_frozen BK551.out 0; have hfz182_1 := blk_frozen BK551.out 1) | (go_at_call 25; (with_reducible refine (tnum_Shr.calls t547 t548 (ji154) t583 t584 _ A159.out).mono ?_); rintro e w183 ⟨rfl, hb⟩; have n0_ := Aside0.mk (blk_below (g := gb551) (o := .cells #[.int .u64 t547, .int .u64 t548] 24 (0, 0)) (by (with_reducible repeat (first | refine blk_drewN ?_ _ | refine blk_drew ?_ | refine blk_alloc ?_ _)); exact BK551.out) hb); have n1_ := Aside0.mk (blk_below (g := gb552) (o := .cells #[.int .u64 t549, .int .u64 t550] 24 (0, 0)) (by (with_reducible repeat (first | refine blk_drewN ?_ _ | refine blk_drew ?_ | refine blk_alloc ?_ _)); exact BK552.out) hb); have n2_ := Aside0.mk (below_step (by repeat (first | (with_reducible first | exact HB.out | apply below_alloc | apply pw_below_drewN | apply below_drew1 | refine below_set ?_ GE551.out | refine below_set ?_ GE552.out) | exact HB.out)) hb); clear BK551; clear BK552; clear HB; have BK551 := n0_; have BK552 := n1_; have HB := n2_; clear n0_ n1_ n2_; (try clear hb); (try clear hb2); (try clear hk); (try clear hi)) | (go_at_call 13; (with_reducible refine (tnum_Has.calls t583 t584 ji161 false _ A162.out).mono ?_); rintro e w184 ⟨rfl, hb⟩; have n0_ := Aside0.mk (blk_below (g := gb551) (o := .cells #[.int .u64 t547, .int .u64 t548] 24 (0, 0)) (by (with_reducible repeat (first | refine blk_drewN ?_ _ | refine blk_drew ?_ | refine blk_alloc ?_ _)); exact BK551.out) hb); have n1_ := Aside0.mk (blk_below (g := gb552) (o := .cells #[.int .u64 t549, .int .u64 t550] 24 (0, 0)) (by (with_reducible repeat (first | refine blk_drewN ?_ _ | refine blk_drew ?_ | refine blk_alloc ?_ _)); exact BK552.out) hb); have n2_ := Aside0.mk (below_step (by repeat (first | (with_reducible first | exact HB.out | apply below_alloc | apply pw_below_drewN | apply below_drew1 | refine below_set ?_ GE551.out | refine below_set ?_ GE552.out) | exact HB.out)) hb); clear BK551; clear BK552; clear HB; have BK551 := n0_; have BK552 := n1_; have HB := n2_; clear n0_ n1_ n2_; (try clear hb); (try clear hb2); (try clear hk); (try clear hi)))
                      subst hji154
                      go_meet
                      case rel => exact ⟨_, (true), (by first | rfl | (simp; done) | (simp [*]; done)), H', ⟨by have := HJ11.out; have := HJ70.out; first | omega | exact Nat.le_refl _⟩, ⟨by (with_reducible repeat (first | refine blk_drewN ?_ _ | refine blk_drew ?_ | refine blk_alloc ?_ _)); exact BK551.out⟩, ⟨by (with_reducible repeat (first | refine blk_drewN ?_ _ | refine blk_drew ?_ | refine blk_alloc ?_ _)); exact BK552.out⟩, ⟨by repeat (first | (with_reducible first | exact HB.out | apply below_alloc | apply pw_below_drewN | apply below_drew1 | refine below_set ?_ GE551.out | refine below_set ?_ GE552.out) | exact HB.out)⟩⟩
                  · replace c158 := Bool.eq_false_iff.mpr c158
                    subst c158
                    have H1 : (wardenlaw03_TnumSound.j2 kj70 a4 a5 t553 (ji154) true t547 t548 t549 t550) = some r := by rw [if_neg (show ¬ (false = true) by decide)] at H; exact H
                    clear H
                    have H := H1
                    clear H1
                    have H' := Aside0.mk H
                    clear H
                    have hnb185 := NB551_552.out
                    have hnc185 := NB552_551.out
                    have hcz186_0 : wc.cell? ⟨gb551, 0, none⟩ = some (.int .u64 t547) := (blk_cell BK551.out 0).trans rfl
                    have hcz186_1 : wc.cell? ⟨gb551, 1, none⟩ = some (.int .u64 t548) := (blk_cell BK551.out 1).trans rfl
                    have hfz186_0 := blk_frozen BK551.out 0
                    have hfz186_1 := blk_frozen BK551.out 1
                    go_wp2_with (first | ((with_reducible refine gate_callee (f := 26) rfl ?_); refine goesL_ (some 121) rfl rfl Try.func26 (by kernel_rfl) rfl #[.agg #[.int .u64 t547, .int .u64 t548], .int .u64 (ji154)] rfl (by (try simp only [List.map_toArray, List.map_cons, List.map_nil]); first | done | (simp only [hji154]; rfl) | rfl | (simp only [List.length_drop, List.length_take]; rfl)) ?_; (with_reducible refine (tnum_Shl.calls t547 t548 (ji154) t580 t581 _ A153.out).mono ?_); rintro e w187 ⟨rfl, hb⟩; refine ⟨_, rfl, ?_⟩; have n0_ := Aside0.mk (blk_below (g := gb551) (o := .cells #[.int .u64 t547, .int .u64 t548] 24 (0, 0)) (by (with_reducible repeat (first | refine blk_drewN ?_ _ | refine blk_drew ?_ | refine blk_alloc ?_ _)); exact BK551.out) hb); have n1_ := Aside0.mk (blk_below (g := gb552) (o := .cells #[.int .u64 t549, .int .u64 t550] 24 (0, 0)) (by (with_reducible repeat (first | refine blk_drewN ?_ _ | refine blk_drew ?_ | refine blk_alloc ?_ _)); exact BK552.out) hb); have n2_ := Aside0.mk (below_step (by repeat (first | (with_reducible first | exact HB.out | apply below_alloc | apply pw_below_drewN | apply below_drew1 | refine below_set ?_ GE551.out | refine below_set ?_ GE552.out) | exact HB.out)) hb); clear BK551; clear BK552; clear HB; have BK551 := n0_; have BK552 := n1_; have HB := n2_; clear n0_ n1_ n2_; (try clear hb); (try clear hb2); (try clear hk); (try clear hi)) | ((with_reducible refine gate_callee (f := 13) rfl ?_); refine goesL_ (some 125) rfl rfl Try.func13 (by kernel_rfl) rfl #[.agg #[.int .u64 t580, .int .u64 t581], .int .u64 ji156] rfl (by (try simp only [List.map_toArray, List.map_cons, List.map_nil]); first | done | (simp only [hji156]; rfl) | rfl | (simp only [List.length_drop, List.length_take]; rfl)) ?_; (with_reducible refine (tnum_Has.calls t580 t581 ji156 false _ A157.out).mono ?_); rintro e w188 ⟨rfl, hb⟩; refine ⟨_, rfl, ?_⟩; have n0_ := Aside0.mk (blk_below (g := gb551) (o := .cells #[.int .u64 t547, .int .u64 t548] 24 (0, 0)) (by (with_reducible repeat (first | refine blk_drewN ?_ _ | refine blk_drew ?_ | refine blk_alloc ?_ _)); exact BK551.out) hb); have n1_ := Aside0.mk (blk_below (g := gb552) (o := .cells #[.int .u64 t549, .int .u64 t550] 24 (0, 0)) (by (with_reducible repeat (first | refine blk_drewN ?_ _ | refine blk_drew ?_ | refine blk_alloc ?_ _)); exact BK552.out) hb); have n2_ := Aside0.mk (below_step (by repeat (first | (with_reducible first | exact HB.out | apply below_alloc | apply pw_below_drewN | apply below_drew1 | refine below_set ?_ GE551.out | refine below_set ?_ GE552.out) | exact HB.out)) hb); clear BK551; clear BK552; clear HB; have BK551 := n0_; have BK552 := n1_; have HB := n2_; clear n0_ n1_ n2_; (try clear hb); (try clear hb2); (try clear hk); (try clear hi)))
                    subst hji154
                    go_meet
                    case rel => exact ⟨_, (true), (by first | rfl | (simp; done) | (simp [*]; done)), H', ⟨by have := HJ11.out; have := HJ70.out; first | omega | exact Nat.le_refl _⟩, ⟨by (with_reducible repeat (first | refine blk_drewN ?_ _ | refine blk_drew ?_ | refine blk_alloc ?_ _)); exact BK551.out⟩, ⟨by (with_reducible repeat (first | refine blk_drewN ?_ _ | refine blk_drew ?_ | refine blk_alloc ?_ _)); exact BK552.out⟩, ⟨by repeat (first | (with_reducible first | exact HB.out | apply below_alloc | apply pw_below_drewN | apply below_drew1 | refine below_set ?_ GE551.out | refine below_set ?_ GE552.out) | exact HB.out)⟩⟩
                · rw [if_neg c155] at H
                  exact absurd H (by simp)
              case rest => as_aux_lemma =>
                clear HC152
                try clear c1
                try clear c2
                try clear p2
                try clear c3
                try clear c4
                try clear c6
                try clear p6
                try clear c7
                try clear c8
                try clear c9
                try clear c10
                try clear c12
                try clear c13
                try clear c14
                try clear c15
                try clear c16
                try clear c17
                try clear c18
                try clear c25
                try clear c26
                try clear c27
                try clear c28
                try clear c31
                try clear c34
                try clear c38
                try clear c49
                try clear c60
                try clear p64
                try clear c67
                try clear c70
                try clear c74
                try clear c77
                try clear c80
                try clear c83
                try clear c86
                try clear c107
                try clear c124
                try clear c137
                try clear c146
                try clear c151
                try clear c155
                try clear c155b0
                try clear c155b1
                try clear c158
                try clear c160
                try clear c160b0
                try clear c163
                try clear c165
                try clear c165b0
                try clear c168
                try clear c178
                try clear c185
                try clear hcz100_0
                try clear hcz100_1
                try clear hcz103_0
                try clear hcz103_1
                try clear hcz104_0
                try clear hcz104_1
                try clear hcz108_0
                try clear hcz108_1
                try clear hcz109_0
                try clear hcz109_1
                try clear hcz112_0
                try clear hcz112_1
                try clear hcz113_0
                try clear hcz113_1
                try clear hcz116_0
                try clear hcz116_1
                try clear hcz117_0
                try clear hcz117_1
                try clear hcz120_0
                try clear hcz120_1
                try clear hcz121_0
                try clear hcz121_1
                try clear hcz125_0
                try clear hcz125_1
                try clear hcz126_0
                try clear hcz126_1
                try clear hcz129_0
                try clear hcz129_1
                try clear hcz130_0
                try clear hcz130_1
                try clear hcz133_0
                try clear hcz133_1
                try clear hcz134_0
                try clear hcz134_1
                try clear hcz138_0
                try clear hcz138_1
                try clear hcz139_0
                try clear hcz139_1
                try clear hcz142_0
                try clear hcz142_1
                try clear hcz143_0
                try clear hcz143_1
                try clear hcz147_0
                try clear hcz147_1
                try clear hcz148_0
                try clear hcz148_1
                try clear hcz169_0
                try clear hcz169_1
                try clear hcz172_0
                try clear hcz172_1
                try clear hcz175_0
                try clear hcz175_1
                try clear hcz179_0
                try clear hcz179_1
                try clear hcz182_0
                try clear hcz182_1
                try clear hcz186_0
                try clear hcz186_1
                try clear hcz18_0
                try clear hcz18_1
                try clear hcz19_0
                try clear hcz19_1
                try clear hcz35_0
                try clear hcz35_1
                try clear hcz37_0
                try clear hcz37_1
                try clear hcz38_0
                try clear hcz38_1
                try clear hcz41_0
                try clear hcz41_1
                try clear hcz42_0
                try clear hcz42_1
                try clear hcz45_0
                try clear hcz45_1
                try clear hcz46_0
                try clear hcz46_1
                try clear hcz50_0
                try clear hcz50_1
                try clear hcz52_0
                try clear hcz52_1
                try clear hcz53_0
                try clear hcz53_1
                try clear hcz56_0
                try clear hcz56_1
                try clear hcz57_0
                try clear hcz57_1
                try clear hcz61_0
                try clear hcz61_1
                try clear hcz63_0
                try clear hcz63_1
                try clear hcz64_0
                try clear hcz64_1
                try clear hcz68_0
                try clear hcz68_1
                try clear hcz87_0
                try clear hcz87_1
                try clear hcz88_0
                try clear hcz88_1
                try clear hcz91_0
                try clear hcz91_1
                try clear hcz92_0
                try clear hcz92_1
                try clear hcz95_0
                try clear hcz95_1
                try clear hcz96_0
                try clear hcz96_1
                try clear hcz99_0
                try clear hcz99_1
                try clear hfz100_0
                try clear hfz100_1
                try clear hfz103_0
                try clear hfz103_1
                try clear hfz104_0
                try clear hfz104_1
                try clear hfz108_0
                try clear hfz108_1
                try clear hfz109_0
                try clear hfz109_1
                try clear hfz112_0
                try clear hfz112_1
                try clear hfz113_0
                try clear hfz113_1
                try clear hfz116_0
                try clear hfz116_1
                try clear hfz117_0
                try clear hfz117_1
                try clear hfz120_0
                try clear hfz120_1
                try clear hfz121_0
                try clear hfz121_1
                try clear hfz125_0
                try clear hfz125_1
                try clear hfz126_0
                try clear hfz126_1
                try clear hfz129_0
                try clear hfz129_1
                try clear hfz130_0
                try clear hfz130_1
                try clear hfz133_0
                try clear hfz133_1
                try clear hfz134_0
                try clear hfz134_1
                try clear hfz138_0
                try clear hfz138_1
                try clear hfz139_0
                try clear hfz139_1
                try clear hfz142_0
                try clear hfz142_1
                try clear hfz143_0
                try clear hfz143_1
                try clear hfz147_0
                try clear hfz147_1
                try clear hfz148_0
                try clear hfz148_1
                try clear hfz169_0
                try clear hfz169_1
                try clear hfz172_0
                try clear hfz172_1
                try clear hfz175_0
                try clear hfz175_1
                try clear hfz179_0
                try clear hfz179_1
                try clear hfz182_0
                try clear hfz182_1
                try clear hfz186_0
                try clear hfz186_1
                try clear hfz18_0
                try clear hfz18_1
                try clear hfz19_0
                try clear hfz19_1
                try clear hfz35_0
                try clear hfz35_1
                try clear hfz37_0
                try clear hfz37_1
                try clear hfz38_0
                try clear hfz38_1
                try clear hfz41_0
                try clear hfz41_1
                try clear hfz42_0
                try clear hfz42_1
                try clear hfz45_0
                try clear hfz45_1
                try clear hfz46_0
                try clear hfz46_1
                try clear hfz50_0
                try clear hfz50_1
                try clear hfz52_0
                try clear hfz52_1
                try clear hfz53_0
                try clear hfz53_1
                try clear hfz56_0
                try clear hfz56_1
                try clear hfz57_0
                try clear hfz57_1
                try clear hfz61_0
                try clear hfz61_1
                try clear hfz63_0
                try clear hfz63_1
                try clear hfz64_0
                try clear hfz64_1
                try clear hfz68_0
                try clear hfz68_1
                try clear hfz87_0
                try clear hfz87_1
                try clear hfz88_0
                try clear hfz88_1
                try clear hfz91_0
                try clear hfz91_1
                try clear hfz92_0
                try clear hfz92_1
                try clear hfz95_0
                try clear hfz95_1
                try clear hfz96_0
                try clear hfz96_1
                try clear hfz99_0
                try clear hfz99_1
                try clear p2
                obtain ⟨kq, x148_151, rfl, HA, HJ151, BK551, BK552, HB⟩ := hcut
                cases kq with
                | zero => exact absurd HA.out (by simp [wardenlaw03_TnumSound.j2])
                | succ kj151 =>
                  have H := HA.out
                  clear HA
                  simp only [wardenlaw03_TnumSound.j2] at H
                  by_cases c189 : x148_151 = true
                  · subst c189
                    have H1 : (some false) = some r := by rw [if_pos rfl] at H; exact H
                    clear H
                    have H := H1
                    clear H1
                    obtain rfl := Option.some.inj H
                    go_wp2
                    go_ret
                    exact ⟨by first | rfl | (simp [errW_none, errW_some] <;> rfl) | (simp [*, errW_none, errW_some] <;> rfl), by repeat (first | (with_reducible first | exact HB.out | apply below_alloc | apply pw_below_drewN | apply below_drew1 | refine below_set ?_ GE551.out | refine below_set ?_ GE552.out) | exact HB.out)⟩
                  · replace c189 := Bool.eq_false_iff.mpr c189
                    subst c189
                    have H1 : (if (IntKind.u64.wrap (a6)) < 64 then (if 0 ≤ (IntKind.u64.wrap (a6)) then (wardenlaw03_TnumSound.j3 kj151 a4 a5 t553 (IntKind.u64.wrap (a6)) (Go.bits .and .u64 t553 (IntKind.u64.wrap ((shl .u64 1 (IntKind.u64.wrap (a6))) - 1))) t547 t548 t549 t550) else (none)) else (wardenlaw03_TnumSound.j3 kj151 a4 a5 t553 (IntKind.u64.wrap (a6)) t553 t547 t548 t549 t550)) = some r := by rw [if_neg (show ¬ (false = true) by decide)] at H; exact H
                    clear H
                    have H := H1
                    clear H1
                    have HC190 := Aside0.mk H
                    clear H
                    go_upto_if 151 with (fail)
                    go_cut [20] (fun v20 wc => ∃ (kq : Nat) (x20_189 : Int), v20 = .int .u64 x20_189 ∧ Aside0 (wardenlaw03_TnumSound.j3 kq a4 a5 t553 (IntKind.u64.wrap (a6)) x20_189 t547 t548 t549 t550 = some r) ∧ Aside0 (kq ≤ kj151) ∧ Aside0 (wc.heap[gb551]? = some (.cells #[.int .u64 t547, .int .u64 t548] 24 (0, 0))) ∧ Aside0 (wc.heap[gb552]? = some (.cells #[.int .u64 t549, .int .u64 t550] 24 (0, 0))) ∧ Aside0 (Below w.heap.size w wc))
                    case first => as_aux_lemma =>
                      have H := HC190.out
                      clear HC190
                      by_cases c191 : (IntKind.u64.wrap (a6)) < 64
                      · rw [if_pos c191] at H
                        have c191b0 : decide ((IntKind.u64.wrap (a6)) < 64) = true := decide_eq_true c191
                        clear c191
                        (first | rw [c191b0] | (simp only [i64_w, i32_w]; rw [c191b0]) | skip)
                        obtain ⟨ji192, hji192⟩ : ∃ j_ : Int, (IntKind.u64.wrap (a6)) = j_ := ⟨_, rfl⟩
                        replace H : (if 0 ≤ (ji192) then (wardenlaw03_TnumSound.j3 kj151 a4 a5 t553 (ji192) (Go.bits .and .u64 t553 (IntKind.u64.wrap ((shl .u64 1 (ji192)) - 1))) t547 t548 t549 t550) else (none)) = some r := by first | (rw [hji192] at H; exact H) | (simp only [hji192] at H ⊢; exact H)
                        (try rw [hji192] at c191b0)
                        by_cases c193 : 0 ≤ (ji192)
                        · rw [if_pos c193] at H
                          have c193b0 := eq_true c193
                          have c193b1 : decide (0 ≤ (ji192)) = true := decide_eq_true c193
                          clear c193
                          obtain ⟨ji194, hji194⟩ : ∃ j_ : Int, (shl .u64 1 (ji192)) = j_ := ⟨_, rfl⟩
                          replace H : (wardenlaw03_TnumSound.j3 kj151 a4 a5 t553 (ji192) (Go.bits .and .u64 t553 (IntKind.u64.wrap ((ji194) - 1))) t547 t548 t549 t550) = some r := by first | (rw [hji194] at H; exact H) | (simp only [hji194] at H ⊢; exact H)
                          have hji194_ : (IntKind.u64.wrap (1 * 2 ^ min (ji192).toNat 64)) = ji194 := hji194
                          have hji194z : (ji192) ≤ 64 → (IntKind.u64.wrap (1 * 2 ^ (ji192).toNat)) = ji194 := shl_small hji194
                          have hji194u : (IntKind.u64.wrap (2 ^ min (ji192).toNat 64)) = ji194 := by have h_ := hji194_; rw [Int.one_mul] at h_; exact h_
                          have hji194v : (ji192) ≤ 64 → (IntKind.u64.wrap (2 ^ (ji192).toNat)) = ji194 := fun hle_ => by have h_ := hji194z hle_; rw [Int.one_mul] at h_; exact h_
                          have H' := Aside0.mk H
                          clear H
                          go_wp2
                          go_meet
                          case rel => exact ⟨_, (Go.bits .and .u64 t553 (IntKind.u64.wrap ((ji194) - 1))), (by first | rfl | (simp; done) | (simp only [← hji194] <;> (first | rfl | simp)) | (simp [*]; done)), (by rw [hji192]; exact H'), ⟨by have := HJ11.out; have := HJ70.out; have := HJ151.out; first | omega | exact Nat.le_refl _⟩, ⟨by (with_reducible repeat (first | refine blk_drewN ?_ _ | refine blk_drew ?_ | refine blk_alloc ?_ _)); exact BK551.out⟩, ⟨by (with_reducible repeat (first | refine blk_drewN ?_ _ | refine blk_drew ?_ | refine blk_alloc ?_ _)); exact BK552.out⟩, ⟨by repeat (first | (with_reducible first | exact HB.out | apply below_alloc | apply pw_below_drewN | apply below_drew1 | refine below_set ?_ GE551.out | refine below_set ?_ GE552.out) | exact HB.out)⟩⟩
                        · rw [if_neg c193] at H
                          exact absurd H (by simp)
                      · rw [if_neg c191] at H
                        have c191b0 : decide ((IntKind.u64.wrap (a6)) < 64) = false := decide_eq_false c191
                        clear c191
                        (first | rw [c191b0] | (simp only [i64_w, i32_w]; rw [c191b0]) | skip)
                        have H' := Aside0.mk H
                        clear H
                        go_wp2
                        go_meet
                        case rel => exact ⟨_, (t553), (by first | rfl | (simp; done) | (simp [*]; done)), H', ⟨by have := HJ11.out; have := HJ70.out; have := HJ151.out; first | omega | exact Nat.le_refl _⟩, ⟨by (with_reducible repeat (first | refine blk_drewN ?_ _ | refine blk_drew ?_ | refine blk_alloc ?_ _)); exact BK551.out⟩, ⟨by (with_reducible repeat (first | refine blk_drewN ?_ _ | refine blk_drew ?_ | refine blk_alloc ?_ _)); exact BK552.out⟩, ⟨by repeat (first | (with_reducible first | exact HB.out | apply below_alloc | apply pw_below_drewN | apply below_drew1 | refine below_set ?_ GE551.out | refine below_set ?_ GE552.out) | exact HB.out)⟩⟩
                    case rest => as_aux_lemma =>
                      clear HC190
                      try clear c1
                      try clear c2
                      try clear p2
                      try clear c3
                      try clear c4
                      try clear c6
                      try clear p6
                      try clear c7
                      try clear c8
                      try clear c9
                      try clear c10
                      try clear c12
                      try clear c13
                      try clear c14
                      try clear c15
                      try clear c16
                      try clear c17
                      try clear c18
                      try clear c19
                      try clear c25
                      try clear c26
                      try clear c27
                      try clear c28
                      try clear c31
                      try clear c34
                      try clear c38
                      try clear c49
                      try clear c60
                      try clear p64
                      try clear c67
                      try clear c70
                      try clear c74
                      try clear c77
                      try clear c80
                      try clear c83
                      try clear c86
                      try clear c107
                      try clear c124
                      try clear c137
                      try clear c146
                      try clear c151
                      try clear c155
                      try clear c155b0
                      try clear c155b1
                      try clear c158
                      try clear c160
                      try clear c160b0
                      try clear c163
                      try clear c165
                      try clear c165b0
                      try clear c168
                      try clear c178
                      try clear c185
                      try clear c189
                      try clear c191
                      try clear c191b0
                      try clear c193
                      try clear c193b0
                      try clear c193b1
                      try clear hcz100_0
                      try clear hcz100_1
                      try clear hcz103_0
                      try clear hcz103_1
                      try clear hcz104_0
                      try clear hcz104_1
                      try clear hcz108_0
                      try clear hcz108_1
                      try clear hcz109_0
                      try clear hcz109_1
                      try clear hcz112_0
                      try clear hcz112_1
                      try clear hcz113_0
                      try clear hcz113_1
                      try clear hcz116_0
                      try clear hcz116_1
                      try clear hcz117_0
                      try clear hcz117_1
                      try clear hcz120_0
                      try clear hcz120_1
                      try clear hcz121_0
                      try clear hcz121_1
                      try clear hcz125_0
                      try clear hcz125_1
                      try clear hcz126_0
                      try clear hcz126_1
                      try clear hcz129_0
                      try clear hcz129_1
                      try clear hcz130_0
                      try clear hcz130_1
                      try clear hcz133_0
                      try clear hcz133_1
                      try clear hcz134_0
                      try clear hcz134_1
                      try clear hcz138_0
                      try clear hcz138_1
                      try clear hcz139_0
                      try clear hcz139_1
                      try clear hcz142_0
                      try clear hcz142_1
                      try clear hcz143_0
                      try clear hcz143_1
                      try clear hcz147_0
                      try clear hcz147_1
                      try clear hcz148_0
                      try clear hcz148_1
                      try clear hcz169_0
                      try clear hcz169_1
                      try clear hcz172_0
                      try clear hcz172_1
                      try clear hcz175_0
                      try clear hcz175_1
                      try clear hcz179_0
                      try clear hcz179_1
                      try clear hcz182_0
                      try clear hcz182_1
                      try clear hcz186_0
                      try clear hcz186_1
                      try clear hcz18_0
                      try clear hcz18_1
                      try clear hcz19_0
                      try clear hcz19_1
                      try clear hcz35_0
                      try clear hcz35_1
                      try clear hcz37_0
                      try clear hcz37_1
                      try clear hcz38_0
                      try clear hcz38_1
                      try clear hcz41_0
                      try clear hcz41_1
                      try clear hcz42_0
                      try clear hcz42_1
                      try clear hcz45_0
                      try clear hcz45_1
                      try clear hcz46_0
                      try clear hcz46_1
                      try clear hcz50_0
                      try clear hcz50_1
                      try clear hcz52_0
                      try clear hcz52_1
                      try clear hcz53_0
                      try clear hcz53_1
                      try clear hcz56_0
                      try clear hcz56_1
                      try clear hcz57_0
                      try clear hcz57_1
                      try clear hcz61_0
                      try clear hcz61_1
                      try clear hcz63_0
                      try clear hcz63_1
                      try clear hcz64_0
                      try clear hcz64_1
                      try clear hcz68_0
                      try clear hcz68_1
                      try clear hcz87_0
                      try clear hcz87_1
                      try clear hcz88_0
                      try clear hcz88_1
                      try clear hcz91_0
                      try clear hcz91_1
                      try clear hcz92_0
                      try clear hcz92_1
                      try clear hcz95_0
                      try clear hcz95_1
                      try clear hcz96_0
                      try clear hcz96_1
                      try clear hcz99_0
                      try clear hcz99_1
                      try clear hfz100_0
                      try clear hfz100_1
                      try clear hfz103_0
                      try clear hfz103_1
                      try clear hfz104_0
                      try clear hfz104_1
                      try clear hfz108_0
                      try clear hfz108_1
                      try clear hfz109_0
                      try clear hfz109_1
                      try clear hfz112_0
                      try clear hfz112_1
                      try clear hfz113_0
                      try clear hfz113_1
                      try clear hfz116_0
                      try clear hfz116_1
                      try clear hfz117_0
                      try clear hfz117_1
                      try clear hfz120_0
                      try clear hfz120_1
                      try clear hfz121_0
                      try clear hfz121_1
                      try clear hfz125_0
                      try clear hfz125_1
                      try clear hfz126_0
                      try clear hfz126_1
                      try clear hfz129_0
                      try clear hfz129_1
                      try clear hfz130_0
                      try clear hfz130_1
                      try clear hfz133_0
                      try clear hfz133_1
                      try clear hfz134_0
                      try clear hfz134_1
                      try clear hfz138_0
                      try clear hfz138_1
                      try clear hfz139_0
                      try clear hfz139_1
                      try clear hfz142_0
                      try clear hfz142_1
                      try clear hfz143_0
                      try clear hfz143_1
                      try clear hfz147_0
                      try clear hfz147_1
                      try clear hfz148_0
                      try clear hfz148_1
                      try clear hfz169_0
                      try clear hfz169_1
                      try clear hfz172_0
                      try clear hfz172_1
                      try clear hfz175_0
                      try clear hfz175_1
                      try clear hfz179_0
                      try clear hfz179_1
                      try clear hfz182_0
                      try clear hfz182_1
                      try clear hfz186_0
                      try clear hfz186_1
                      try clear hfz18_0
                      try clear hfz18_1
                      try clear hfz19_0
                      try clear hfz19_1
                      try clear hfz35_0
                      try clear hfz35_1
                      try clear hfz37_0
                      try clear hfz37_1
                      try clear hfz38_0
                      try clear hfz38_1
                      try clear hfz41_0
                      try clear hfz41_1
                      try clear hfz42_0
                      try clear hfz42_1
                      try clear hfz45_0
                      try clear hfz45_1
                      try clear hfz46_0
                      try clear hfz46_1
                      try clear hfz50_0
                      try clear hfz50_1
                      try clear hfz52_0
                      try clear hfz52_1
                      try clear hfz53_0
                      try clear hfz53_1
                      try clear hfz56_0
                      try clear hfz56_1
                      try clear hfz57_0
                      try clear hfz57_1
                      try clear hfz61_0
                      try clear hfz61_1
                      try clear hfz63_0
                      try clear hfz63_1
                      try clear hfz64_0
                      try clear hfz64_1
                      try clear hfz68_0
                      try clear hfz68_1
                      try clear hfz87_0
                      try clear hfz87_1
                      try clear hfz88_0
                      try clear hfz88_1
                      try clear hfz91_0
                      try clear hfz91_1
                      try clear hfz92_0
                      try clear hfz92_1
                      try clear hfz95_0
                      try clear hfz95_1
                      try clear hfz96_0
                      try clear hfz96_1
                      try clear hfz99_0
                      try clear hfz99_1
                      try clear p2
                      try clear p6
                      try clear p64
                      obtain ⟨kq, x20_189, rfl, HA, HJ189, BK551, BK552, HB⟩ := hcut
                      cases kq with
                      | zero => exact absurd HA.out (by simp [wardenlaw03_TnumSound.j3])
                      | succ kj189 =>
                        have H := HA.out
                        clear HA
                        simp only [wardenlaw03_TnumSound.j3] at H
                        replace H := Option.bind_eq_some_iff.mp H
                        obtain ⟨⟨t589, t590⟩, A1950, H⟩ := H
                        replace H : ((tnum_Has.f t589 t590 x20_189).bind fun t591 => (if t591 = true then ((tnum_Meet.f t547 t548 t549 t550).bind fun bt592 => ((tnum_Has.f t549 t550 t553).bind fun t596 => (if bt592.2.2 = true then ((tnum_Has.f bt592.1 bt592.2.1 t553).bind fun t597 => (wardenlaw03_TnumSound.j4 kj189 a4 a5 (t596 != t597))) else (wardenlaw03_TnumSound.j4 kj189 a4 a5 (t596 != false))))) else (some false))) = some r := H
                        have A195 := Aside0.mk A1950
                        clear A1950
                        replace H := Option.bind_eq_some_iff.mp H
                        obtain ⟨t591, A1960, H⟩ := H
                        replace H : (if t591 = true then ((tnum_Meet.f t547 t548 t549 t550).bind fun bt592 => ((tnum_Has.f t549 t550 t553).bind fun t596 => (if bt592.2.2 = true then ((tnum_Has.f bt592.1 bt592.2.1 t553).bind fun t597 => (wardenlaw03_TnumSound.j4 kj189 a4 a5 (t596 != t597))) else (wardenlaw03_TnumSound.j4 kj189 a4 a5 (t596 != false))))) else (some false)) = some r := H
                        have A196 := Aside0.mk A1960
                        clear A1960
                        by_cases c197 : t591 = true
                        · subst c197
                          have H1 : ((tnum_Meet.f t547 t548 t549 t550).bind fun bt592 => ((tnum_Has.f t549 t550 t553).bind fun t596 => (if bt592.2.2 = true then ((tnum_Has.f bt592.1 bt592.2.1 t553).bind fun t597 => (wardenlaw03_TnumSound.j4 kj189 a4 a5 (t596 != t597))) else (wardenlaw03_TnumSound.j4 kj189 a4 a5 (t596 != false))))) = some r := by rw [if_pos rfl] at H; exact H
                          clear H
                          have H := H1
                          clear H1
                          replace H := Option.bind_eq_some_iff.mp H
                          obtain ⟨⟨t592, t593, t594⟩, A1980, H⟩ := H
                          replace H : ((tnum_Has.f t549 t550 t553).bind fun t596 => (if t594 = true then ((tnum_Has.f t592 t593 t553).bind fun t597 => (wardenlaw03_TnumSound.j4 kj189 a4 a5 (t596 != t597))) else (wardenlaw03_TnumSound.j4 kj189 a4 a5 (t596 != false)))) = some r := H
                          have A198 := Aside0.mk A1980
                          clear A1980
                          have HC199 := Aside0.mk H
                          clear H
                          have hnb200 := NB551_552.out
                          have hnc200 := NB552_551.out
                          have hcz201_0 : wc.cell? ⟨gb551, 0, none⟩ = some (.int .u64 t547) := (blk_cell BK551.out 0).trans rfl
                          have hcz201_1 : wc.cell? ⟨gb551, 1, none⟩ = some (.int .u64 t548) := (blk_cell BK551.out 1).trans rfl
                          have hfz201_0 := blk_frozen BK551.out 0
                          have hfz201_1 := blk_frozen BK551.out 1
                          go_upto_region 16 with (first | ((with_reducible refine gate_callee (f := 22) rfl ?_); refine goesL_ (some 159) rfl rfl Try.func22 (by kernel_rfl) rfl #[.agg #[.int .u64 t547, .int .u64 t548], .int .u64 (IntKind.u64.wrap (a6))] rfl (by (try simp only [List.map_toArray, List.map_cons, List.map_nil]); first | done | rfl | (simp only [List.length_drop, List.length_take]; rfl)) ?_; (with_reducible refine (tnum_Low.calls t547 t548 (IntKind.u64.wrap (a6)) t589 t590 _ A195.out).mono ?_); rintro e w202 ⟨rfl, hb⟩; refine ⟨_, rfl, ?_⟩; have n0_ := Aside0.mk (blk_below (g := gb551) (o := .cells #[.int .u64 t547, .int .u64 t548] 24 (0, 0)) (by (with_reducible repeat (first | refine blk_drewN ?_ _ | refine blk_drew ?_ | refine blk_alloc ?_ _)); exact BK551.out) hb); have n1_ := Aside0.mk (blk_below (g := gb552) (o := .cells #[.int .u64 t549, .int .u64 t550] 24 (0, 0)) (by (with_reducible repeat (first | refine blk_drewN ?_ _ | refine blk_drew ?_ | refine blk_alloc ?_ _)); exact BK552.out) hb); have n2_ := Aside0.mk (below_step (by repeat (first | (with_reducible first | exact HB.out | apply below_alloc | apply pw_below_drewN | apply below_drew1 | refine below_set ?_ GE551.out | refine below_set ?_ GE552.out) | exact HB.out)) hb); clear BK551; clear BK552; clear HB; have BK551 := n0_; have BK552 := n1_; have HB := n2_; clear n0_ n1_ n2_; (try clear hb); (try clear hb2); (try clear hk); (try clear hi)) | ((with_reducible refine gate_callee (f := 13) rfl ?_); refine goesL_ (some 161) rfl rfl Try.func13 (by kernel_rfl) rfl #[.agg #[.int .u64 t589, .int .u64 t590], .int .u64 x20_189] rfl (by (try simp only [List.map_toArray, List.map_cons, List.map_nil]); first | done | rfl | (simp only [List.length_drop, List.length_take]; rfl)) ?_; (with_reducible refine (tnum_Has.calls t589 t590 x20_189 true _ A196.out).mono ?_); rintro e w203 ⟨rfl, hb⟩; refine ⟨_, rfl, ?_⟩; have n0_ := Aside0.mk (blk_below (g := gb551) (o := .cells #[.int .u64 t547, .int .u64 t548] 24 (0, 0)) (by (with_reducible repeat (first | refine blk_drewN ?_ _ | refine blk_drew ?_ | refine blk_alloc ?_ _)); exact BK551.out) hb); have n1_ := Aside0.mk (blk_below (g := gb552) (o := .cells #[.int .u64 t549, .int .u64 t550] 24 (0, 0)) (by (with_reducible repeat (first | refine blk_drewN ?_ _ | refine blk_drew ?_ | refine blk_alloc ?_ _)); exact BK552.out) hb); have n2_ := Aside0.mk (below_step (by repeat (first | (with_reducible first | exact HB.out | apply below_alloc | apply pw_below_drewN | apply below_drew1 | refine below_set ?_ GE551.out | refine below_set ?_ GE552.out) | exact HB.out)) hb); clear BK551; clear BK552; clear HB; have BK551 := n0_; have BK552 := n1_; have HB := n2_; clear n0_ n1_ n2_; (try clear hb); (try clear hb2); (try clear hk); (try clear hi); have hcz204_0 : w203.cell? ⟨gb551, 0, none⟩ = some (.int .u64 t547) := (blk_cell BK551.out 0).trans rfl; have hcz204_1 : w203.cell? ⟨gb551, 1, none⟩ = some (.int .u64 t548) := (blk_cell BK551.out 1).trans rfl; have hfz204_0 := blk_frozen BK551.out 0; have hfz204_1 := blk_frozen BK551.out 1; have hcz205_0 : w203.cell? ⟨gb552, 0, none⟩ = some (.int .u64 t549) := (blk_cell BK552.out 0).trans rfl; have hcz205_1 : w203.cell? ⟨gb552, 1, none⟩ = some (.int .u64 t550) := (blk_cell BK552.out 1).trans rfl; have hfz205_0 := blk_frozen BK552.out 0; have hfz205_1 := blk_frozen BK552.out 1) | ((with_reducible refine gate_callee (f := 10) rfl ?_); refine goesL_ (some 166) rfl rfl Try.func10 (by kernel_rfl) rfl #[.agg #[.int .u64 t547, .int .u64 t548], .agg #[.int .u64 t549, .int .u64 t550]] rfl (by (try simp only [List.map_toArray, List.map_cons, List.map_nil]); first | done | rfl | (simp only [List.length_drop, List.length_take]; rfl)) ?_; (with_reducible refine (tnum_Meet.calls t547 t548 t549 t550 t592 t593 t594 _ A198.out).mono ?_); rintro e w206 ⟨rfl, hb⟩; refine ⟨_, rfl, ?_⟩; have n0_ := Aside0.mk (blk_below (g := gb551) (o := .cells #[.int .u64 t547, .int .u64 t548] 24 (0, 0)) (by (with_reducible repeat (first | refine blk_drewN ?_ _ | refine blk_drew ?_ | refine blk_alloc ?_ _)); exact BK551.out) hb); have n1_ := Aside0.mk (blk_below (g := gb552) (o := .cells #[.int .u64 t549, .int .u64 t550] 24 (0, 0)) (by (with_reducible repeat (first | refine blk_drewN ?_ _ | refine blk_drew ?_ | refine blk_alloc ?_ _)); exact BK552.out) hb); have n2_ := Aside0.mk (below_step (by repeat (first | (with_reducible first | exact HB.out | apply below_alloc | apply pw_below_drewN | apply below_drew1 | refine below_set ?_ GE551.out | refine below_set ?_ GE552.out) | exact HB.out)) hb); clear BK551; clear BK552; clear HB; have BK551 := n0_; have BK552 := n1_; have HB := n2_; clear n0_ n1_ n2_; (try clear hb); (try clear hb2); (try clear hk); (try clear hi)) | ((with_reducible refine gate_dst (N := 21) rfl ?_); refine box_event ?hg (N := 21) ?hd (cs := #[.int .u64 0, .int .u64 0]) (t := 24) ?hr ?_; (case hd => rfl); (case hg => rfl); (case hr => first | (go_simp; done) | (go_simp; rfl)); intro gb595 hg w207 hbox hb; have n0_ := Aside0.mk (blk_below (g := gb551) (o := .cells #[.int .u64 t547, .int .u64 t548] 24 (0, 0)) (by (with_reducible repeat (first | refine blk_drewN ?_ _ | refine blk_drew ?_ | refine blk_alloc ?_ _)); exact BK551.out) hb); have n1_ := Aside0.mk (blk_below (g := gb552) (o := .cells #[.int .u64 t549, .int .u64 t550] 24 (0, 0)) (by (with_reducible repeat (first | refine blk_drewN ?_ _ | refine blk_drew ?_ | refine blk_alloc ?_ _)); exact BK552.out) hb); have n2_ := Aside0.mk (below_step (by repeat (first | (with_reducible first | exact HB.out | apply below_alloc | apply pw_below_drewN | apply below_drew1 | refine below_set ?_ GE551.out | refine below_set ?_ GE552.out) | exact HB.out)) hb); have n3_ := Aside0.mk (hbox); have n4_ := Aside0.mk ((by rw [hg]; exact (below_size (by repeat (first | (with_reducible first | exact HB.out | apply below_alloc | apply pw_below_drewN | apply below_drew1 | refine below_set ?_ GE551.out | refine below_set ?_ GE552.out) | exact HB.out))) : w.heap.size ≤ gb595)); have n5_ := Aside0.mk ((by rw [hg]; exact (below_size (by repeat (first | (with_reducible first | exact HB.out | apply below_alloc | apply pw_below_drewN | apply below_drew1 | refine below_set ?_ GE551.out | refine below_set ?_ GE552.out) | exact HB.out))) : w.heap.size ≤ gb595)); have n6_ := Aside0.mk ((by rw [hg]; exact Nat.ne_of_lt (blk_lt (g := gb551) (o := .cells #[.int .u64 t547, .int .u64 t548] 24 (0, 0)) (by (with_reducible repeat (first | refine blk_drewN ?_ _ | refine blk_drew ?_ | refine blk_alloc ?_ _)); exact BK551.out)) : gb551 ≠ gb595)); have n7_ := Aside0.mk ((by rw [hg]; exact Nat.ne_of_gt (blk_lt (g := gb551) (o := .cells #[.int .u64 t547, .int .u64 t548] 24 (0, 0)) (by (with_reducible repeat (first | refine blk_drewN ?_ _ | refine blk_drew ?_ | refine blk_alloc ?_ _)); exact BK551.out)) : gb595 ≠ gb551)); have n8_ := Aside0.mk ((by rw [hg]; exact Nat.ne_of_lt (blk_lt (g := gb552) (o := .cells #[.int .u64 t549, .int .u64 t550] 24 (0, 0)) (by (with_reducible repeat (first | refine blk_drewN ?_ _ | refine blk_drew ?_ | refine blk_alloc ?_ _)); exact BK552.out)) : gb552 ≠ gb595)); have n9_ := Aside0.mk ((by rw [hg]; exact Nat.ne_of_gt (blk_lt (g := gb552) (o := .cells #[.int .u64 t549, .int .u64 t550] 24 (0, 0)) (by (with_reducible repeat (first | refine blk_drewN ?_ _ | refine blk_drew ?_ | refine blk_alloc ?_ _)); exact BK552.out)) : gb595 ≠ gb552)); clear BK551; clear BK552; clear HB; have BK551 := n0_; have BK552 := n1_; have HB := n2_; have BK595 := n3_; have GW595 := n4_; have GE595 := n5_; have NB551_595 := n6_; have NB595_551 := n7_; have NB552_595 := n8_; have NB595_552 := n9_; clear n0_ n1_ n2_ n3_ n4_ n5_ n6_ n7_ n8_ n9_; clear hb hbox hg; have hnb208 := NB595_551.out; have hnc208 := NB551_595.out; have hnb209 := NB595_552.out; have hnc209 := NB552_595.out; have hcz210_0 : w207.cell? ⟨gb595, 0, none⟩ = some (.int .u64 0) := (blk_cell BK595.out 0).trans rfl; have hcz210_1 : w207.cell? ⟨gb595, 1, none⟩ = some (.int .u64 0) := (blk_cell BK595.out 1).trans rfl; have hfz210_0 := blk_frozen BK595.out 0; have hfz210_1 := blk_frozen BK595.out 1))
                          (try simp only [Act.put, List.setIfInBounds_toArray, List.set_cons_zero, List.set_cons_succ])
                          go_cut [178] (fun v178 wc => ∃ (kq : Nat) (x178_198 : Bool), v178 = .bool x178_198 ∧ Aside0 (wardenlaw03_TnumSound.j4 kq a4 a5 x178_198 = some r) ∧ Aside0 (kq ≤ kj189) ∧ Aside0 (wc.heap[gb551]? = some (.cells #[.int .u64 t547, .int .u64 t548] 24 (0, 0))) ∧ Aside0 (wc.heap[gb552]? = some (.cells #[.int .u64 t549, .int .u64 t550] 24 (0, 0))) ∧ Aside0 (wc.heap[gb595]? = some (.cells #[.int .u64 t592, .int .u64 t593] 24 (0, 0))) ∧ Aside0 (Below w.heap.size w wc))
                          case first => as_aux_lemma =>
                            have H := HC199.out
                            clear HC199
                            replace H := Option.bind_eq_some_iff.mp H
                            obtain ⟨t596, A2110, H⟩ := H
                            replace H : (if t594 = true then ((tnum_Has.f t592 t593 t553).bind fun t597 => (wardenlaw03_TnumSound.j4 kj189 a4 a5 (t596 != t597))) else (wardenlaw03_TnumSound.j4 kj189 a4 a5 (t596 != false))) = some r := H
                            have A211 := Aside0.mk A2110
                            clear A2110
                            by_cases c212 : t594 = true
                            · subst c212
                              have H1 : ((tnum_Has.f t592 t593 t553).bind fun t597 => (wardenlaw03_TnumSound.j4 kj189 a4 a5 (t596 != t597))) = some r := by rw [if_pos rfl] at H; exact H
                              clear H
                              have H := H1
                              clear H1
                              replace H := Option.bind_eq_some_iff.mp H
                              obtain ⟨t597, A2130, H⟩ := H
                              replace H : (wardenlaw03_TnumSound.j4 kj189 a4 a5 (t596 != t597)) = some r := H
                              have A213 := Aside0.mk A2130
                              clear A2130
                              have H' := Aside0.mk H
                              clear H
                              have hnb214 := NB552_551.out
                              have hnc214 := NB551_552.out
                              have hnb215 := NB552_595.out
                              have hnc215 := NB595_552.out
                              have hcz216_0 : w207.cell? ⟨gb552, 0, none⟩ = some (.int .u64 t549) := (blk_cell BK552.out 0).trans rfl
                              have hcz216_1 : w207.cell? ⟨gb552, 1, none⟩ = some (.int .u64 t550) := (blk_cell BK552.out 1).trans rfl
                              have hfz216_0 := blk_frozen BK552.out 0
                              have hfz216_1 := blk_frozen BK552.out 1
                              go_wp2_with (first | ((with_reducible refine gate_callee (f := 13) rfl ?_); refine goesL_ (some 171) rfl rfl Try.func13 (by kernel_rfl) rfl #[.agg #[.int .u64 t549, .int .u64 t550], .int .u64 t553] rfl (by (try simp only [List.map_toArray, List.map_cons, List.map_nil]); first | done | rfl | (simp only [List.length_drop, List.length_take]; rfl)) ?_; (with_reducible refine (tnum_Has.calls t549 t550 t553 t596 _ A211.out).mono ?_); rintro e w217 ⟨rfl, hb⟩; refine ⟨_, rfl, ?_⟩; have n0_ := Aside0.mk (blk_below (g := gb551) (o := .cells #[.int .u64 t547, .int .u64 t548] 24 (0, 0)) (by (with_reducible repeat (first | refine blk_drewN ?_ _ | refine blk_drew ?_ | refine blk_alloc ?_ _)); refine blk_far ?_ NB551_595.out _; (with_reducible repeat (first | refine blk_drewN ?_ _ | refine blk_drew ?_ | refine blk_alloc ?_ _)); refine blk_far ?_ NB551_595.out _; (with_reducible repeat (first | refine blk_drewN ?_ _ | refine blk_drew ?_ | refine blk_alloc ?_ _)); exact BK551.out) hb); have n1_ := Aside0.mk (blk_below (g := gb552) (o := .cells #[.int .u64 t549, .int .u64 t550] 24 (0, 0)) (by (with_reducible repeat (first | refine blk_drewN ?_ _ | refine blk_drew ?_ | refine blk_alloc ?_ _)); refine blk_far ?_ NB552_595.out _; (with_reducible repeat (first | refine blk_drewN ?_ _ | refine blk_drew ?_ | refine blk_alloc ?_ _)); refine blk_far ?_ NB552_595.out _; (with_reducible repeat (first | refine blk_drewN ?_ _ | refine blk_drew ?_ | refine blk_alloc ?_ _)); exact BK552.out) hb); have n2_ := Aside0.mk (blk_below (g := gb595) (o := .cells #[.int .u64 t592, .int .u64 t593] 24 (0, 0)) (by (with_reducible repeat (first | refine blk_drewN ?_ _ | refine blk_drew ?_ | refine blk_alloc ?_ _)); refine blk_put (cs := #[.int .u64 t592, .int .u64 0]) ?_ 1 _ rfl; (with_reducible repeat (first | refine blk_drewN ?_ _ | refine blk_drew ?_ | refine blk_alloc ?_ _)); refine blk_put (cs := #[.int .u64 0, .int .u64 0]) ?_ 0 _ rfl; (with_reducible repeat (first | refine blk_drewN ?_ _ | refine blk_drew ?_ | refine blk_alloc ?_ _)); exact BK595.out) hb); have n3_ := Aside0.mk (below_step (by repeat (first | (with_reducible first | exact HB.out | apply below_alloc | apply pw_below_drewN | apply below_drew1 | refine below_set ?_ GE551.out | refine below_set ?_ GE552.out | refine below_set ?_ GE595.out) | exact HB.out)) hb); clear BK551; clear BK552; clear BK595; clear HB; have BK551 := n0_; have BK552 := n1_; have BK595 := n2_; have HB := n3_; clear n0_ n1_ n2_ n3_; (try clear hb); (try clear hb2); (try clear hk); (try clear hi); have hnb218 := NB595_551.out; have hnc218 := NB551_595.out; have hcz219_0 : w217.cell? ⟨gb595, 0, none⟩ = some (.int .u64 t592) := (blk_cell BK595.out 0).trans rfl; have hcz219_1 : w217.cell? ⟨gb595, 1, none⟩ = some (.int .u64 t593) := (blk_cell BK595.out 1).trans rfl; have hfz219_0 := blk_frozen BK595.out 0; have hfz219_1 := blk_frozen BK595.out 1) | (go_at_call 13; (with_reducible refine (tnum_Has.calls t592 t593 t553 t597 _ A213.out).mono ?_); rintro e w220 ⟨rfl, hb⟩; have n0_ := Aside0.mk (blk_below (g := gb551) (o := .cells #[.int .u64 t547, .int .u64 t548] 24 (0, 0)) (by (with_reducible repeat (first | refine blk_drewN ?_ _ | refine blk_drew ?_ | refine blk_alloc ?_ _)); exact BK551.out) hb); have n1_ := Aside0.mk (blk_below (g := gb552) (o := .cells #[.int .u64 t549, .int .u64 t550] 24 (0, 0)) (by (with_reducible repeat (first | refine blk_drewN ?_ _ | refine blk_drew ?_ | refine blk_alloc ?_ _)); exact BK552.out) hb); have n2_ := Aside0.mk (blk_below (g := gb595) (o := .cells #[.int .u64 t592, .int .u64 t593] 24 (0, 0)) (by (with_reducible repeat (first | refine blk_drewN ?_ _ | refine blk_drew ?_ | refine blk_alloc ?_ _)); exact BK595.out) hb); have n3_ := Aside0.mk (below_step (by repeat (first | (with_reducible first | exact HB.out | apply below_alloc | apply pw_below_drewN | apply below_drew1 | refine below_set ?_ GE551.out | refine below_set ?_ GE552.out | refine below_set ?_ GE595.out) | exact HB.out)) hb); clear BK551; clear BK552; clear BK595; clear HB; have BK551 := n0_; have BK552 := n1_; have BK595 := n2_; have HB := n3_; clear n0_ n1_ n2_ n3_; (try clear hb); (try clear hb2); (try clear hk); (try clear hi)))
                              go_meet
                              case rel => exact ⟨_, ((t596 != t597)), (by first | rfl | (simp; done) | (simp [*]; done)), H', ⟨by have := HJ11.out; have := HJ70.out; have := HJ151.out; have := HJ189.out; first | omega | exact Nat.le_refl _⟩, ⟨by (with_reducible repeat (first | refine blk_drewN ?_ _ | refine blk_drew ?_ | refine blk_alloc ?_ _)); exact BK551.out⟩, ⟨by (with_reducible repeat (first | refine blk_drewN ?_ _ | refine blk_drew ?_ | refine blk_alloc ?_ _)); exact BK552.out⟩, ⟨by (with_reducible repeat (first | refine blk_drewN ?_ _ | refine blk_drew ?_ | refine blk_alloc ?_ _)); exact BK595.out⟩, ⟨by repeat (first | (with_reducible first | exact HB.out | apply below_alloc | apply pw_below_drewN | apply below_drew1 | refine below_set ?_ GE551.out | refine below_set ?_ GE552.out | refine below_set ?_ GE595.out) | exact HB.out)⟩⟩
                            · replace c212 := Bool.eq_false_iff.mpr c212
                              subst c212
                              have H1 : (wardenlaw03_TnumSound.j4 kj189 a4 a5 (t596 != false)) = some r := by rw [if_neg (show ¬ (false = true) by decide)] at H; exact H
                              clear H
                              have H := H1
                              clear H1
                              have H' := Aside0.mk H
                              clear H
                              have hnb221 := NB552_551.out
                              have hnc221 := NB551_552.out
                              have hnb222 := NB552_595.out
                              have hnc222 := NB595_552.out
                              have hcz223_0 : w207.cell? ⟨gb552, 0, none⟩ = some (.int .u64 t549) := (blk_cell BK552.out 0).trans rfl
                              have hcz223_1 : w207.cell? ⟨gb552, 1, none⟩ = some (.int .u64 t550) := (blk_cell BK552.out 1).trans rfl
                              have hfz223_0 := blk_frozen BK552.out 0
                              have hfz223_1 := blk_frozen BK552.out 1
                              go_wp2_with (first | ((with_reducible refine gate_callee (f := 13) rfl ?_); refine goesL_ (some 171) rfl rfl Try.func13 (by kernel_rfl) rfl #[.agg #[.int .u64 t549, .int .u64 t550], .int .u64 t553] rfl (by (try simp only [List.map_toArray, List.map_cons, List.map_nil]); first | done | rfl | (simp only [List.length_drop, List.length_take]; rfl)) ?_; (with_reducible refine (tnum_Has.calls t549 t550 t553 t596 _ A211.out).mono ?_); rintro e w224 ⟨rfl, hb⟩; refine ⟨_, rfl, ?_⟩; have n0_ := Aside0.mk (blk_below (g := gb551) (o := .cells #[.int .u64 t547, .int .u64 t548] 24 (0, 0)) (by (with_reducible repeat (first | refine blk_drewN ?_ _ | refine blk_drew ?_ | refine blk_alloc ?_ _)); refine blk_far ?_ NB551_595.out _; (with_reducible repeat (first | refine blk_drewN ?_ _ | refine blk_drew ?_ | refine blk_alloc ?_ _)); refine blk_far ?_ NB551_595.out _; (with_reducible repeat (first | refine blk_drewN ?_ _ | refine blk_drew ?_ | refine blk_alloc ?_ _)); exact BK551.out) hb); have n1_ := Aside0.mk (blk_below (g := gb552) (o := .cells #[.int .u64 t549, .int .u64 t550] 24 (0, 0)) (by (with_reducible repeat (first | refine blk_drewN ?_ _ | refine blk_drew ?_ | refine blk_alloc ?_ _)); refine blk_far ?_ NB552_595.out _; (with_reducible repeat (first | refine blk_drewN ?_ _ | refine blk_drew ?_ | refine blk_alloc ?_ _)); refine blk_far ?_ NB552_595.out _; (with_reducible repeat (first | refine blk_drewN ?_ _ | refine blk_drew ?_ | refine blk_alloc ?_ _)); exact BK552.out) hb); have n2_ := Aside0.mk (blk_below (g := gb595) (o := .cells #[.int .u64 t592, .int .u64 t593] 24 (0, 0)) (by (with_reducible repeat (first | refine blk_drewN ?_ _ | refine blk_drew ?_ | refine blk_alloc ?_ _)); refine blk_put (cs := #[.int .u64 t592, .int .u64 0]) ?_ 1 _ rfl; (with_reducible repeat (first | refine blk_drewN ?_ _ | refine blk_drew ?_ | refine blk_alloc ?_ _)); refine blk_put (cs := #[.int .u64 0, .int .u64 0]) ?_ 0 _ rfl; (with_reducible repeat (first | refine blk_drewN ?_ _ | refine blk_drew ?_ | refine blk_alloc ?_ _)); exact BK595.out) hb); have n3_ := Aside0.mk (below_step (by repeat (first | (with_reducible first | exact HB.out | apply below_alloc | apply pw_below_drewN | apply below_drew1 | refine below_set ?_ GE551.out | refine below_set ?_ GE552.out | refine below_set ?_ GE595.out) | exact HB.out)) hb); clear BK551; clear BK552; clear BK595; clear HB; have BK551 := n0_; have BK552 := n1_; have BK595 := n2_; have HB := n3_; clear n0_ n1_ n2_ n3_; (try clear hb); (try clear hb2); (try clear hk); (try clear hi)))
                              go_meet
                              case rel => exact ⟨_, ((t596 != false)), (by first | rfl | (simp; done) | (simp [*]; done)), H', ⟨by have := HJ11.out; have := HJ70.out; have := HJ151.out; have := HJ189.out; first | omega | exact Nat.le_refl _⟩, ⟨by (with_reducible repeat (first | refine blk_drewN ?_ _ | refine blk_drew ?_ | refine blk_alloc ?_ _)); exact BK551.out⟩, ⟨by (with_reducible repeat (first | refine blk_drewN ?_ _ | refine blk_drew ?_ | refine blk_alloc ?_ _)); exact BK552.out⟩, ⟨by (with_reducible repeat (first | refine blk_drewN ?_ _ | refine blk_drew ?_ | refine blk_alloc ?_ _)); exact BK595.out⟩, ⟨by repeat (first | (with_reducible first | exact HB.out | apply below_alloc | apply pw_below_drewN | apply below_drew1 | refine below_set ?_ GE551.out | refine below_set ?_ GE552.out | refine below_set ?_ GE595.out) | exact HB.out)⟩⟩
                          case rest => as_aux_lemma =>
                            clear HC199
                            try clear c1
                            try clear c2
                            try clear p2
                            try clear c3
                            try clear c4
                            try clear c6
                            try clear p6
                            try clear c7
                            try clear c8
                            try clear c9
                            try clear c10
                            try clear c12
                            try clear c13
                            try clear c14
                            try clear c15
                            try clear c16
                            try clear c17
                            try clear c18
                            try clear c19
                            try clear c20
                            try clear c21
                            try clear c22
                            try clear c25
                            try clear c26
                            try clear c27
                            try clear c28
                            try clear c31
                            try clear c34
                            try clear c38
                            try clear c49
                            try clear c60
                            try clear p64
                            try clear c67
                            try clear c70
                            try clear c74
                            try clear c77
                            try clear c80
                            try clear c83
                            try clear c86
                            try clear c107
                            try clear c124
                            try clear c137
                            try clear c146
                            try clear c151
                            try clear c155
                            try clear c155b0
                            try clear c155b1
                            try clear c158
                            try clear c160
                            try clear c160b0
                            try clear c163
                            try clear c165
                            try clear c165b0
                            try clear c168
                            try clear c178
                            try clear c185
                            try clear c189
                            try clear c191
                            try clear c191b0
                            try clear c193
                            try clear c193b0
                            try clear c193b1
                            try clear c197
                            try clear c200
                            try clear c208
                            try clear c209
                            try clear c212
                            try clear c214
                            try clear c215
                            try clear c218
                            try clear c221
                            try clear c222
                            try clear hcz100_0
                            try clear hcz100_1
                            try clear hcz103_0
                            try clear hcz103_1
                            try clear hcz104_0
                            try clear hcz104_1
                            try clear hcz108_0
                            try clear hcz108_1
                            try clear hcz109_0
                            try clear hcz109_1
                            try clear hcz112_0
                            try clear hcz112_1
                            try clear hcz113_0
                            try clear hcz113_1
                            try clear hcz116_0
                            try clear hcz116_1
                            try clear hcz117_0
                            try clear hcz117_1
                            try clear hcz120_0
                            try clear hcz120_1
                            try clear hcz121_0
                            try clear hcz121_1
                            try clear hcz125_0
                            try clear hcz125_1
                            try clear hcz126_0
                            try clear hcz126_1
                            try clear hcz129_0
                            try clear hcz129_1
                            try clear hcz130_0
                            try clear hcz130_1
                            try clear hcz133_0
                            try clear hcz133_1
                            try clear hcz134_0
                            try clear hcz134_1
                            try clear hcz138_0
                            try clear hcz138_1
                            try clear hcz139_0
                            try clear hcz139_1
                            try clear hcz142_0
                            try clear hcz142_1
                            try clear hcz143_0
                            try clear hcz143_1
                            try clear hcz147_0
                            try clear hcz147_1
                            try clear hcz148_0
                            try clear hcz148_1
                            try clear hcz169_0
                            try clear hcz169_1
                            try clear hcz172_0
                            try clear hcz172_1
                            try clear hcz175_0
                            try clear hcz175_1
                            try clear hcz179_0
                            try clear hcz179_1
                            try clear hcz182_0
                            try clear hcz182_1
                            try clear hcz186_0
                            try clear hcz186_1
                            try clear hcz18_0
                            try clear hcz18_1
                            try clear hcz19_0
                            try clear hcz19_1
                            try clear hcz201_0
                            try clear hcz201_1
                            try clear hcz204_0
                            try clear hcz204_1
                            try clear hcz205_0
                            try clear hcz205_1
                            try clear hcz210_0
                            try clear hcz210_1
                            try clear hcz216_0
                            try clear hcz216_1
                            try clear hcz219_0
                            try clear hcz219_1
                            try clear hcz223_0
                            try clear hcz223_1
                            try clear hcz35_0
                            try clear hcz35_1
                            try clear hcz37_0
                            try clear hcz37_1
                            try clear hcz38_0
                            try clear hcz38_1
                            try clear hcz41_0
                            try clear hcz41_1
                            try clear hcz42_0
                            try clear hcz42_1
                            try clear hcz45_0
                            try clear hcz45_1
                            try clear hcz46_0
                            try clear hcz46_1
                            try clear hcz50_0
                            try clear hcz50_1
                            try clear hcz52_0
                            try clear hcz52_1
                            try clear hcz53_0
                            try clear hcz53_1
                            try clear hcz56_0
                            try clear hcz56_1
                            try clear hcz57_0
                            try clear hcz57_1
                            try clear hcz61_0
                            try clear hcz61_1
                            try clear hcz63_0
                            try clear hcz63_1
                            try clear hcz64_0
                            try clear hcz64_1
                            try clear hcz68_0
                            try clear hcz68_1
                            try clear hcz87_0
                            try clear hcz87_1
                            try clear hcz88_0
                            try clear hcz88_1
                            try clear hcz91_0
                            try clear hcz91_1
                            try clear hcz92_0
                            try clear hcz92_1
                            try clear hcz95_0
                            try clear hcz95_1
                            try clear hcz96_0
                            try clear hcz96_1
                            try clear hcz99_0
                            try clear hcz99_1
                            try clear hfz100_0
                            try clear hfz100_1
                            try clear hfz103_0
                            try clear hfz103_1
                            try clear hfz104_0
                            try clear hfz104_1
                            try clear hfz108_0
                            try clear hfz108_1
                            try clear hfz109_0
                            try clear hfz109_1
                            try clear hfz112_0
                            try clear hfz112_1
                            try clear hfz113_0
                            try clear hfz113_1
                            try clear hfz116_0
                            try clear hfz116_1
                            try clear hfz117_0
                            try clear hfz117_1
                            try clear hfz120_0
                            try clear hfz120_1
                            try clear hfz121_0
                            try clear hfz121_1
                            try clear hfz125_0
                            try clear hfz125_1
                            try clear hfz126_0
                            try clear hfz126_1
                            try clear hfz129_0
                            try clear hfz129_1
                            try clear hfz130_0
                            try clear hfz130_1
                            try clear hfz133_0
                            try clear hfz133_1
                            try clear hfz134_0
                            try clear hfz134_1
                            try clear hfz138_0
                            try clear hfz138_1
                            try clear hfz139_0
                            try clear hfz139_1
                            try clear hfz142_0
                            try clear hfz142_1
                            try clear hfz143_0
                            try clear hfz143_1
                            try clear hfz147_0
                            try clear hfz147_1
                            try clear hfz148_0
                            try clear hfz148_1
                            try clear hfz169_0
                            try clear hfz169_1
                            try clear hfz172_0
                            try clear hfz172_1
                            try clear hfz175_0
                            try clear hfz175_1
                            try clear hfz179_0
                            try clear hfz179_1
                            try clear hfz182_0
                            try clear hfz182_1
                            try clear hfz186_0
                            try clear hfz186_1
                            try clear hfz18_0
                            try clear hfz18_1
                            try clear hfz19_0
                            try clear hfz19_1
                            try clear hfz201_0
                            try clear hfz201_1
                            try clear hfz204_0
                            try clear hfz204_1
                            try clear hfz205_0
                            try clear hfz205_1
                            try clear hfz210_0
                            try clear hfz210_1
                            try clear hfz216_0
                            try clear hfz216_1
                            try clear hfz219_0
                            try clear hfz219_1
                            try clear hfz223_0
                            try clear hfz223_1
                            try clear hfz35_0
                            try clear hfz35_1
                            try clear hfz37_0
                            try clear hfz37_1
                            try clear hfz38_0
                            try clear hfz38_1
                            try clear hfz41_0
                            try clear hfz41_1
                            try clear hfz42_0
                            try clear hfz42_1
                            try clear hfz45_0
                            try clear hfz45_1
                            try clear hfz46_0
                            try clear hfz46_1
                            try clear hfz50_0
                            try clear hfz50_1
                            try clear hfz52_0
                            try clear hfz52_1
                            try clear hfz53_0
                            try clear hfz53_1
                            try clear hfz56_0
                            try clear hfz56_1
                            try clear hfz57_0
                            try clear hfz57_1
                            try clear hfz61_0
                            try clear hfz61_1
                            try clear hfz63_0
                            try clear hfz63_1
                            try clear hfz64_0
                            try clear hfz64_1
                            try clear hfz68_0
                            try clear hfz68_1
                            try clear hfz87_0
                            try clear hfz87_1
                            try clear hfz88_0
                            try clear hfz88_1
                            try clear hfz91_0
                            try clear hfz91_1
                            try clear hfz92_0
                            try clear hfz92_1
                            try clear hfz95_0
                            try clear hfz95_1
                            try clear hfz96_0
                            try clear hfz96_1
                            try clear hfz99_0
                            try clear hfz99_1
                            try clear p2
                            try clear p6
                            try clear p64
                            obtain ⟨kq, x178_198, rfl, HA, HJ198, BK551, BK552, BK595, HB⟩ := hcut
                            cases kq with
                            | zero => exact absurd HA.out (by simp [wardenlaw03_TnumSound.j4])
                            | succ kj198 =>
                              have H := HA.out
                              clear HA
                              simp only [wardenlaw03_TnumSound.j4] at H
                              by_cases c225 : x178_198 = true
                              · subst c225
                                have H1 : (some false) = some r := by rw [if_pos rfl] at H; exact H
                                clear H
                                have H := H1
                                clear H1
                                obtain rfl := Option.some.inj H
                                go_wp2
                                go_ret
                                exact ⟨by first | rfl | (simp [errW_none, errW_some] <;> rfl) | (simp [*, errW_none, errW_some] <;> rfl), by repeat (first | (with_reducible first | exact HB.out | apply below_alloc | apply pw_below_drewN | apply below_drew1 | refine below_set ?_ GE551.out | refine below_set ?_ GE552.out | refine below_set ?_ GE595.out) | exact HB.out)⟩
                              · replace c225 := Bool.eq_false_iff.mpr c225
                                subst c225
                                have H1 : ((tnum_Range.f kj198 (mn a4 a5) (mx a4 a5)).bind fun bt598 => ((tnum_Has.f bt598.1 bt598.2 (mn a4 a5)).bind fun t601 => (if t601 = true then ((tnum_Has.f bt598.1 bt598.2 (mx a4 a5)).bind fun t602 => (if t602 = true then ((tnum_Has.f bt598.1 bt598.2 (IntKind.u64.wrap ((mn a4 a5) + (IntKind.u64.wrap (Int.tdiv (IntKind.u64.wrap ((mx a4 a5) - (mn a4 a5))) 2))))).bind fun t603 => (if t603 = true then ((wardenlaw03_works.f kj198).bind fun t604 => (some t604)) else (some false))) else (some false))) else (some false)))) = some r := by rw [if_neg (show ¬ (false = true) by decide)] at H; exact H
                                clear H
                                have H := H1
                                clear H1
                                obtain ⟨ji226, hji226⟩ : ∃ j_ : Int, (mn a4 a5) = j_ := ⟨_, rfl⟩
                                replace H : ((tnum_Range.f kj198 (ji226) (mx a4 a5)).bind fun bt598 => ((tnum_Has.f bt598.1 bt598.2 (ji226)).bind fun t601 => (if t601 = true then ((tnum_Has.f bt598.1 bt598.2 (mx a4 a5)).bind fun t602 => (if t602 = true then ((tnum_Has.f bt598.1 bt598.2 (IntKind.u64.wrap ((ji226) + (IntKind.u64.wrap (Int.tdiv (IntKind.u64.wrap ((mx a4 a5) - (ji226))) 2))))).bind fun t603 => (if t603 = true then ((wardenlaw03_works.f kj198).bind fun t604 => (some t604)) else (some false))) else (some false))) else (some false)))) = some r := by first | (rw [hji226] at H; exact H) | (simp only [hji226] at H ⊢; exact H)
                                have hji226_ : (if a5 < a4 then a5 else a4) = ji226 := hji226
                                obtain ⟨ji227, hji227⟩ : ∃ j_ : Int, (mx a4 a5) = j_ := ⟨_, rfl⟩
                                replace H : ((tnum_Range.f kj198 (ji226) (ji227)).bind fun bt598 => ((tnum_Has.f bt598.1 bt598.2 (ji226)).bind fun t601 => (if t601 = true then ((tnum_Has.f bt598.1 bt598.2 (ji227)).bind fun t602 => (if t602 = true then ((tnum_Has.f bt598.1 bt598.2 (IntKind.u64.wrap ((ji226) + (IntKind.u64.wrap (Int.tdiv (IntKind.u64.wrap ((ji227) - (ji226))) 2))))).bind fun t603 => (if t603 = true then ((wardenlaw03_works.f kj198).bind fun t604 => (some t604)) else (some false))) else (some false))) else (some false)))) = some r := by first | (rw [hji227] at H; exact H) | (simp only [hji227] at H ⊢; exact H)
                                have hji227_ : (if a4 < a5 then a5 else a4) = ji227 := hji227
                                replace H := Option.bind_eq_some_iff.mp H
                                obtain ⟨⟨t598, t599⟩, A2280, H⟩ := H
                                replace H : ((tnum_Has.f t598 t599 (ji226)).bind fun t601 => (if t601 = true then ((tnum_Has.f t598 t599 (ji227)).bind fun t602 => (if t602 = true then ((tnum_Has.f t598 t599 (IntKind.u64.wrap ((ji226) + (IntKind.u64.wrap (Int.tdiv (IntKind.u64.wrap ((ji227) - (ji226))) 2))))).bind fun t603 => (if t603 = true then ((wardenlaw03_works.f kj198).bind fun t604 => (some t604)) else (some false))) else (some false))) else (some false))) = some r := H
                                have A228 := Aside0.mk A2280
                                clear A2280
                                replace H := Option.bind_eq_some_iff.mp H
                                obtain ⟨t601, A2290, H⟩ := H
                                replace H : (if t601 = true then ((tnum_Has.f t598 t599 (ji227)).bind fun t602 => (if t602 = true then ((tnum_Has.f t598 t599 (IntKind.u64.wrap ((ji226) + (IntKind.u64.wrap (Int.tdiv (IntKind.u64.wrap ((ji227) - (ji226))) 2))))).bind fun t603 => (if t603 = true then ((wardenlaw03_works.f kj198).bind fun t604 => (some t604)) else (some false))) else (some false))) else (some false)) = some r := H
                                have A229 := Aside0.mk A2290
                                clear A2290
                                by_cases c230 : t601 = true
                                · subst c230
                                  have H1 : ((tnum_Has.f t598 t599 (ji227)).bind fun t602 => (if t602 = true then ((tnum_Has.f t598 t599 (IntKind.u64.wrap ((ji226) + (IntKind.u64.wrap (Int.tdiv (IntKind.u64.wrap ((ji227) - (ji226))) 2))))).bind fun t603 => (if t603 = true then ((wardenlaw03_works.f kj198).bind fun t604 => (some t604)) else (some false))) else (some false))) = some r := by rw [if_pos rfl] at H; exact H
                                  clear H
                                  have H := H1
                                  clear H1
                                  replace H := Option.bind_eq_some_iff.mp H
                                  obtain ⟨t602, A2310, H⟩ := H
                                  replace H : (if t602 = true then ((tnum_Has.f t598 t599 (IntKind.u64.wrap ((ji226) + (IntKind.u64.wrap (Int.tdiv (IntKind.u64.wrap ((ji227) - (ji226))) 2))))).bind fun t603 => (if t603 = true then ((wardenlaw03_works.f kj198).bind fun t604 => (some t604)) else (some false))) else (some false)) = some r := H
                                  have A231 := Aside0.mk A2310
                                  clear A2310
                                  by_cases c232 : t602 = true
                                  · subst c232
                                    have H1 : ((tnum_Has.f t598 t599 (IntKind.u64.wrap ((ji226) + (IntKind.u64.wrap (Int.tdiv (IntKind.u64.wrap ((ji227) - (ji226))) 2))))).bind fun t603 => (if t603 = true then ((wardenlaw03_works.f kj198).bind fun t604 => (some t604)) else (some false))) = some r := by rw [if_pos rfl] at H; exact H
                                    clear H
                                    have H := H1
                                    clear H1
                                    replace H := Option.bind_eq_some_iff.mp H
                                    obtain ⟨t603, A2330, H⟩ := H
                                    replace H : (if t603 = true then ((wardenlaw03_works.f kj198).bind fun t604 => (some t604)) else (some false)) = some r := H
                                    have A233 := Aside0.mk A2330
                                    clear A2330
                                    by_cases c234 : t603 = true
                                    · subst c234
                                      have H1 : ((wardenlaw03_works.f kj198).bind fun t604 => (some t604)) = some r := by rw [if_pos rfl] at H; exact H
                                      clear H
                                      have H := H1
                                      clear H1
                                      replace H := Option.bind_eq_some_iff.mp H
                                      obtain ⟨t604, A2350, H⟩ := H
                                      replace H : (some t604) = some r := H
                                      have A235 := Aside0.mk A2350
                                      clear A2350
                                      obtain rfl := Option.some.inj H
                                      go_wp2_with (first | ((with_reducible refine gate_callee (f := 18) rfl ?_); refine goesL_ (some 193) rfl rfl Try.func18 (by kernel_rfl) rfl #[.int .u64 ji226, .int .u64 ji227] rfl (by (try simp only [List.map_toArray, List.map_cons, List.map_nil]); first | done | (simp only [hji226, hji227]; rfl) | rfl | (simp only [List.length_drop, List.length_take]; rfl)) ?_; (with_reducible refine (tnum_Range.calls kj198 ji226 ji227 t598 t599 _ A228.out).mono ?_); rintro e w236 ⟨rfl, hb⟩; refine ⟨_, rfl, ?_⟩; have n0_ := Aside0.mk (blk_below (g := gb551) (o := .cells #[.int .u64 t547, .int .u64 t548] 24 (0, 0)) (by (with_reducible repeat (first | refine blk_drewN ?_ _ | refine blk_drew ?_ | refine blk_alloc ?_ _)); exact BK551.out) hb); have n1_ := Aside0.mk (blk_below (g := gb552) (o := .cells #[.int .u64 t549, .int .u64 t550] 24 (0, 0)) (by (with_reducible repeat (first | refine blk_drewN ?_ _ | refine blk_drew ?_ | refine blk_alloc ?_ _)); exact BK552.out) hb); have n2_ := Aside0.mk (blk_below (g := gb595) (o := .cells #[.int .u64 t592, .int .u64 t593] 24 (0, 0)) (by (with_reducible repeat (first | refine blk_drewN ?_ _ | refine blk_drew ?_ | refine blk_alloc ?_ _)); exact BK595.out) hb); have n3_ := Aside0.mk (below_step (by repeat (first | (with_reducible first | exact HB.out | apply below_alloc | apply pw_below_drewN | apply below_drew1 | refine below_set ?_ GE551.out | refine below_set ?_ GE552.out | refine below_set ?_ GE595.out) | exact HB.out)) hb); clear BK551; clear BK552; clear BK595; clear HB; have BK551 := n0_; have BK552 := n1_; have BK595 := n2_; have HB := n3_; clear n0_ n1_ n2_ n3_; (try clear hb); (try clear hb2); (try clear hk); (try clear hi)) | ((with_reducible refine gate_dst (N := 26) rfl ?_); refine box_event ?hg (N := 26) ?hd (cs := #[.int .u64 0, .int .u64 0]) (t := 24) ?hr ?_; (case hd => rfl); (case hg => rfl); (case hr => first | (go_simp; done) | (go_simp; rfl)); intro gb600 hg w237 hbox hb; have n0_ := Aside0.mk (blk_below (g := gb551) (o := .cells #[.int .u64 t547, .int .u64 t548] 24 (0, 0)) (by (with_reducible repeat (first | refine blk_drewN ?_ _ | refine blk_drew ?_ | refine blk_alloc ?_ _)); exact BK551.out) hb); have n1_ := Aside0.mk (blk_below (g := gb552) (o := .cells #[.int .u64 t549, .int .u64 t550] 24 (0, 0)) (by (with_reducible repeat (first | refine blk_drewN ?_ _ | refine blk_drew ?_ | refine blk_alloc ?_ _)); exact BK552.out) hb); have n2_ := Aside0.mk (blk_below (g := gb595) (o := .cells #[.int .u64 t592, .int .u64 t593] 24 (0, 0)) (by (with_reducible repeat (first | refine blk_drewN ?_ _ | refine blk_drew ?_ | refine blk_alloc ?_ _)); exact BK595.out) hb); have n3_ := Aside0.mk (below_step (by repeat (first | (with_reducible first | exact HB.out | apply below_alloc | apply pw_below_drewN | apply below_drew1 | refine below_set ?_ GE551.out | refine below_set ?_ GE552.out | refine below_set ?_ GE595.out) | exact HB.out)) hb); have n4_ := Aside0.mk (hbox); have n5_ := Aside0.mk ((by rw [hg]; exact (below_size (by repeat (first | (with_reducible first | exact HB.out | apply below_alloc | apply pw_below_drewN | apply below_drew1 | refine below_set ?_ GE551.out | refine below_set ?_ GE552.out | refine below_set ?_ GE595.out) | exact HB.out))) : w.heap.size ≤ gb600)); have n6_ := Aside0.mk ((by rw [hg]; exact (below_size (by repeat (first | (with_reducible first | exact HB.out | apply below_alloc | apply pw_below_drewN | apply below_drew1 | refine below_set ?_ GE551.out | refine below_set ?_ GE552.out | refine below_set ?_ GE595.out) | exact HB.out))) : w.heap.size ≤ gb600)); have n7_ := Aside0.mk ((by rw [hg]; exact Nat.ne_of_lt (blk_lt (g := gb551) (o := .cells #[.int .u64 t547, .int .u64 t548] 24 (0, 0)) (by (with_reducible repeat (first | refine blk_drewN ?_ _ | refine blk_drew ?_ | refine blk_alloc ?_ _)); exact BK551.out)) : gb551 ≠ gb600)); have n8_ := Aside0.mk ((by rw [hg]; exact Nat.ne_of_gt (blk_lt (g := gb551) (o := .cells #[.int .u64 t547, .int .u64 t548] 24 (0, 0)) (by (with_reducible repeat (first | refine blk_drewN ?_ _ | refine blk_drew ?_ | refine blk_alloc ?_ _)); exact BK551.out)) : gb600 ≠ gb551)); have n9_ := Aside0.mk ((by rw [hg]; exact Nat.ne_of_lt (blk_lt (g := gb552) (o := .cells #[.int .u64 t549, .int .u64 t550] 24 (0, 0)) (by (with_reducible repeat (first | refine blk_drewN ?_ _ | refine blk_drew ?_ | refine blk_alloc ?_ _)); exact BK552.out)) : gb552 ≠ gb600)); have n10_ := Aside0.mk ((by rw [hg]; exact Nat.ne_of_gt (blk_lt (g := gb552) (o := .cells #[.int .u64 t549, .int .u64 t550] 24 (0, 0)) (by (with_reducible repeat (first | refine blk_drewN ?_ _ | refine blk_drew ?_ | refine blk_alloc ?_ _)); exact BK552.out)) : gb600 ≠ gb552)); have n11_ := Aside0.mk ((by rw [hg]; exact Nat.ne_of_lt (blk_lt (g := gb595) (o := .cells #[.int .u64 t592, .int .u64 t593] 24 (0, 0)) (by (with_reducible repeat (first | refine blk_drewN ?_ _ | refine blk_drew ?_ | refine blk_alloc ?_ _)); exact BK595.out)) : gb595 ≠ gb600)); have n12_ := Aside0.mk ((by rw [hg]; exact Nat.ne_of_gt (blk_lt (g := gb595) (o := .cells #[.int .u64 t592, .int .u64 t593] 24 (0, 0)) (by (with_reducible repeat (first | refine blk_drewN ?_ _ | refine blk_drew ?_ | refine blk_alloc ?_ _)); exact BK595.out)) : gb600 ≠ gb595)); clear BK551; clear BK552; clear BK595; clear HB; have BK551 := n0_; have BK552 := n1_; have BK595 := n2_; have HB := n3_; have BK600 := n4_; have GW600 := n5_; have GE600 := n6_; have NB551_600 := n7_; have NB600_551 := n8_; have NB552_600 := n9_; have NB600_552 := n10_; have NB595_600 := n11_; have NB600_595 := n12_; clear n0_ n1_ n2_ n3_ n4_ n5_ n6_ n7_ n8_ n9_ n10_ n11_ n12_; clear hb hbox hg; have hnb238 := NB600_551.out; have hnc238 := NB551_600.out; have hnb239 := NB600_552.out; have hnc239 := NB552_600.out; have hnb240 := NB600_595.out; have hnc240 := NB595_600.out; have hcz241_0 : w237.cell? ⟨gb600, 0, none⟩ = some (.int .u64 0) := (blk_cell BK600.out 0).trans rfl; have hcz241_1 : w237.cell? ⟨gb600, 1, none⟩ = some (.int .u64 0) := (blk_cell BK600.out 1).trans rfl; have hfz241_0 := blk_frozen BK600.out 0; have hfz241_1 := blk_frozen BK600.out 1) | ((with_reducible refine gate_callee (f := 13) rfl ?_); refine goesL_ (some 196) rfl rfl Try.func13 (by kernel_rfl) rfl #[.agg #[.int .u64 t598, .int .u64 t599], .int .u64 ji226] rfl (by (try simp only [List.map_toArray, List.map_cons, List.map_nil]); first | done | (simp only [hji226]; rfl) | rfl | (simp only [List.length_drop, List.length_take]; rfl)) ?_; (with_reducible refine (tnum_Has.calls t598 t599 ji226 true _ A229.out).mono ?_); rintro e w242 ⟨rfl, hb⟩; refine ⟨_, rfl, ?_⟩; have n0_ := Aside0.mk (blk_below (g := gb551) (o := .cells #[.int .u64 t547, .int .u64 t548] 24 (0, 0)) (by (with_reducible repeat (first | refine blk_drewN ?_ _ | refine blk_drew ?_ | refine blk_alloc ?_ _)); refine blk_far ?_ NB551_600.out _; (with_reducible repeat (first | refine blk_drewN ?_ _ | refine blk_drew ?_ | refine blk_alloc ?_ _)); refine blk_far ?_ NB551_600.out _; (with_reducible repeat (first | refine blk_drewN ?_ _ | refine blk_drew ?_ | refine blk_alloc ?_ _)); exact BK551.out) hb); have n1_ := Aside0.mk (blk_below (g := gb552) (o := .cells #[.int .u64 t549, .int .u64 t550] 24 (0, 0)) (by (with_reducible repeat (first | refine blk_drewN ?_ _ | refine blk_drew ?_ | refine blk_alloc ?_ _)); refine blk_far ?_ NB552_600.out _; (with_reducible repeat (first | refine blk_drewN ?_ _ | refine blk_drew ?_ | refine blk_alloc ?_ _)); refine blk_far ?_ NB552_600.out _; (with_reducible repeat (first | refine blk_drewN ?_ _ | refine blk_drew ?_ | refine blk_alloc ?_ _)); exact BK552.out) hb); have n2_ := Aside0.mk (blk_below (g := gb595) (o := .cells #[.int .u64 t592, .int .u64 t593] 24 (0, 0)) (by (with_reducible repeat (first | refine blk_drewN ?_ _ | refine blk_drew ?_ | refine blk_alloc ?_ _)); refine blk_far ?_ NB595_600.out _; (with_reducible repeat (first | refine blk_drewN ?_ _ | refine blk_drew ?_ | refine blk_alloc ?_ _)); refine blk_far ?_ NB595_600.out _; (with_reducible repeat (first | refine blk_drewN ?_ _ | refine blk_drew ?_ | refine blk_alloc ?_ _)); exact BK595.out) hb); have n3_ := Aside0.mk (blk_below (g := gb600) (o := .cells #[.int .u64 t598, .int .u64 t599] 24 (0, 0)) (by (with_reducible repeat (first | refine blk_drewN ?_ _ | refine blk_drew ?_ | refine blk_alloc ?_ _)); refine blk_put (cs := #[.int .u64 t598, .int .u64 0]) ?_ 1 _ rfl; (with_reducible repeat (first | refine blk_drewN ?_ _ | refine blk_drew ?_ | refine blk_alloc ?_ _)); refine blk_put (cs := #[.int .u64 0, .int .u64 0]) ?_ 0 _ rfl; (with_reducible repeat (first | refine blk_drewN ?_ _ | refine blk_drew ?_ | refine blk_alloc ?_ _)); exact BK600.out) hb); have n4_ := Aside0.mk (below_step (by repeat (first | (with_reducible first | exact HB.out | apply below_alloc | apply pw_below_drewN | apply below_drew1 | refine below_set ?_ GE551.out | refine below_set ?_ GE552.out | refine below_set ?_ GE595.out | refine below_set ?_ GE600.out) | exact HB.out)) hb); clear BK551; clear BK552; clear BK595; clear BK600; clear HB; have BK551 := n0_; have BK552 := n1_; have BK595 := n2_; have BK600 := n3_; have HB := n4_; clear n0_ n1_ n2_ n3_ n4_; (try clear hb); (try clear hb2); (try clear hk); (try clear hi); have hcz243_0 : w242.cell? ⟨gb600, 0, none⟩ = some (.int .u64 t598) := (blk_cell BK600.out 0).trans rfl; have hcz243_1 : w242.cell? ⟨gb600, 1, none⟩ = some (.int .u64 t599) := (blk_cell BK600.out 1).trans rfl; have hfz243_0 := blk_frozen BK600.out 0; have hfz243_1 := blk_frozen BK600.out 1) | (go_at_call 13; (with_reducible refine (tnum_Has.calls t598 t599 ji227 true _ A231.out).mono ?_); rintro e w244 ⟨rfl, hb⟩; have n0_ := Aside0.mk (blk_below (g := gb551) (o := .cells #[.int .u64 t547, .int .u64 t548] 24 (0, 0)) (by (with_reducible repeat (first | refine blk_drewN ?_ _ | refine blk_drew ?_ | refine blk_alloc ?_ _)); exact BK551.out) hb); have n1_ := Aside0.mk (blk_below (g := gb552) (o := .cells #[.int .u64 t549, .int .u64 t550] 24 (0, 0)) (by (with_reducible repeat (first | refine blk_drewN ?_ _ | refine blk_drew ?_ | refine blk_alloc ?_ _)); exact BK552.out) hb); have n2_ := Aside0.mk (blk_below (g := gb595) (o := .cells #[.int .u64 t592, .int .u64 t593] 24 (0, 0)) (by (with_reducible repeat (first | refine blk_drewN ?_ _ | refine blk_drew ?_ | refine blk_alloc ?_ _)); exact BK595.out) hb); have n3_ := Aside0.mk (blk_below (g := gb600) (o := .cells #[.int .u64 t598, .int .u64 t599] 24 (0, 0)) (by (with_reducible repeat (first | refine blk_drewN ?_ _ | refine blk_drew ?_ | refine blk_alloc ?_ _)); exact BK600.out) hb); have n4_ := Aside0.mk (below_step (by repeat (first | (with_reducible first | exact HB.out | apply below_alloc | apply pw_below_drewN | apply below_drew1 | refine below_set ?_ GE551.out | refine below_set ?_ GE552.out | refine below_set ?_ GE595.out | refine below_set ?_ GE600.out) | exact HB.out)) hb); clear BK551; clear BK552; clear BK595; clear BK600; clear HB; have BK551 := n0_; have BK552 := n1_; have BK595 := n2_; have BK600 := n3_; have HB := n4_; clear n0_ n1_ n2_ n3_ n4_; (try clear hb); (try clear hb2); (try clear hk); (try clear hi); have hcz245_0 : w244.cell? ⟨gb600, 0, none⟩ = some (.int .u64 t598) := (blk_cell BK600.out 0).trans rfl; have hcz245_1 : w244.cell? ⟨gb600, 1, none⟩ = some (.int .u64 t599) := (blk_cell BK600.out 1).trans rfl; have hfz245_0 := blk_frozen BK600.out 0; have hfz245_1 := blk_frozen BK600.out 1) | (go_at_call 13; (with_reducible refine (tnum_Has.calls t598 t599 (IntKind.u64.wrap ((ji226) + (IntKind.u64.wrap (Int.tdiv (IntKind.u64.wrap ((ji227) - (ji226))) 2)))) true _ A233.out).mono ?_); rintro e w246 ⟨rfl, hb⟩; have n0_ := Aside0.mk (blk_below (g := gb551) (o := .cells #[.int .u64 t547, .int .u64 t548] 24 (0, 0)) (by (with_reducible repeat (first | refine blk_drewN ?_ _ | refine blk_drew ?_ | refine blk_alloc ?_ _)); exact BK551.out) hb); have n1_ := Aside0.mk (blk_below (g := gb552) (o := .cells #[.int .u64 t549, .int .u64 t550] 24 (0, 0)) (by (with_reducible repeat (first | refine blk_drewN ?_ _ | refine blk_drew ?_ | refine blk_alloc ?_ _)); exact BK552.out) hb); have n2_ := Aside0.mk (blk_below (g := gb595) (o := .cells #[.int .u64 t592, .int .u64 t593] 24 (0, 0)) (by (with_reducible repeat (first | refine blk_drewN ?_ _ | refine blk_drew ?_ | refine blk_alloc ?_ _)); exact BK595.out) hb); have n3_ := Aside0.mk (blk_below (g := gb600) (o := .cells #[.int .u64 t598, .int .u64 t599] 24 (0, 0)) (by (with_reducible repeat (first | refine blk_drewN ?_ _ | refine blk_drew ?_ | refine blk_alloc ?_ _)); exact BK600.out) hb); have n4_ := Aside0.mk (below_step (by repeat (first | (with_reducible first | exact HB.out | apply below_alloc | apply pw_below_drewN | apply below_drew1 | refine below_set ?_ GE551.out | refine below_set ?_ GE552.out | refine below_set ?_ GE595.out | refine below_set ?_ GE600.out) | exact HB.out)) hb); clear BK551; clear BK552; clear BK595; clear BK600; clear HB; have BK551 := n0_; have BK552 := n1_; have BK595 := n2_; have BK600 := n3_; have HB := n4_; clear n0_ n1_ n2_ n3_ n4_; (try clear hb); (try clear hb2); (try clear hk); (try clear hi)) | (go_at_call 24; (with_reducible refine (wardenlaw03_works.calls kj198 t604 _ hr_ A235.out).mono ?_); rintro e w247 ⟨rfl, hb⟩; have n0_ := Aside0.mk (blk_below (g := gb551) (o := .cells #[.int .u64 t547, .int .u64 t548] 24 (0, 0)) (by (with_reducible repeat (first | refine blk_drewN ?_ _ | refine blk_drew ?_ | refine blk_alloc ?_ _)); exact BK551.out) hb); have n1_ := Aside0.mk (blk_below (g := gb552) (o := .cells #[.int .u64 t549, .int .u64 t550] 24 (0, 0)) (by (with_reducible repeat (first | refine blk_drewN ?_ _ | refine blk_drew ?_ | refine blk_alloc ?_ _)); exact BK552.out) hb); have n2_ := Aside0.mk (blk_below (g := gb595) (o := .cells #[.int .u64 t592, .int .u64 t593] 24 (0, 0)) (by (with_reducible repeat (first | refine blk_drewN ?_ _ | refine blk_drew ?_ | refine blk_alloc ?_ _)); exact BK595.out) hb); have n3_ := Aside0.mk (blk_below (g := gb600) (o := .cells #[.int .u64 t598, .int .u64 t599] 24 (0, 0)) (by (with_reducible repeat (first | refine blk_drewN ?_ _ | refine blk_drew ?_ | refine blk_alloc ?_ _)); exact BK600.out) hb); have n4_ := Aside0.mk (below_step (by repeat (first | (with_reducible first | exact HB.out | apply below_alloc | apply pw_below_drewN | apply below_drew1 | refine below_set ?_ GE551.out | refine below_set ?_ GE552.out | refine below_set ?_ GE595.out | refine below_set ?_ GE600.out) | exact HB.out)) hb); clear BK551; clear BK552; clear BK595; clear BK600; clear HB; have BK551 := n0_; have BK552 := n1_; have BK595 := n2_; have BK600 := n3_; have HB := n4_; clear n0_ n1_ n2_ n3_ n4_; (try clear hb); (try clear hb2); (try clear hk); (try clear hi)))
                                      go_ret
                                      exact ⟨by first | rfl | (simp [errW_none, errW_some] <;> rfl) | (simp only [← hji226, ← hji227]; first | rfl | (simp [errW_none, errW_some] <;> rfl)) | (simp [*, errW_none, errW_some] <;> rfl), by repeat (first | (with_reducible first | exact HB.out | apply below_alloc | apply pw_below_drewN | apply below_drew1 | refine below_set ?_ GE551.out | refine below_set ?_ GE552.out | refine below_set ?_ GE595.out | refine below_set ?_ GE600.out) | exact HB.out)⟩
                                    · replace c234 := Bool.eq_false_iff.mpr c234
                                      subst c234
                                      have H1 : (some false) = some r := by rw [if_neg (show ¬ (false = true) by decide)] at H; exact H
                                      clear H
                                      have H := H1
                                      clear H1
                                      exact absurd ((Option.some.inj H).trans hr_.out) (by decide)
                                  · replace c232 := Bool.eq_false_iff.mpr c232
                                    subst c232
                                    have H1 : (some false) = some r := by rw [if_neg (show ¬ (false = true) by decide)] at H; exact H
                                    clear H
                                    have H := H1
                                    clear H1
                                    exact absurd ((Option.some.inj H).trans hr_.out) (by decide)
                                · replace c230 := Bool.eq_false_iff.mpr c230
                                  subst c230
                                  have H1 : (some false) = some r := by rw [if_neg (show ¬ (false = true) by decide)] at H; exact H
                                  clear H
                                  have H := H1
                                  clear H1
                                  exact absurd ((Option.some.inj H).trans hr_.out) (by decide)
                        · replace c197 := Bool.eq_false_iff.mpr c197
                          subst c197
                          have H1 : (some false) = some r := by rw [if_neg (show ¬ (false = true) by decide)] at H; exact H
                          clear H
                          have H := H1
                          clear H1
                          exact absurd ((Option.some.inj H).trans hr_.out) (by decide)
/-- THE ONE PURE STATEMENT of wardenlaw03_TnumSound: yours. -/
def wardenlaw03_TnumSound.Pure : Prop := ∀ (a0 : Int) (a1 : Int) (a2 : Int) (a3 : Int) (a4 : Int) (a5 : Int) (a6 : Int), (Lit.int .u64 a0).wf = true → (Lit.int .u64 a1).wf = true → (Lit.int .u64 a2).wf = true → (Lit.int .u64 a3).wf = true → (Lit.int .u64 a4).wf = true → (Lit.int .u64 a5).wf = true → (Lit.int .u8 a6).wf = true → ∃ k, wardenlaw03_TnumSound.f k a0 a1 a2 a3 a4 a5 a6 = some true
theorem wardenlaw03_TnumSound.walk (P : wardenlaw03_TnumSound.Pure) (a0 : Int) (a1 : Int) (a2 : Int) (a3 : Int) (a4 : Int) (a5 : Int) (a6 : Int) (w : World) (w0 : (Lit.int .u64 a0).wf = true) (w1 : (Lit.int .u64 a1).wf = true) (w2 : (Lit.int .u64 a2).wf = true) (w3 : (Lit.int .u64 a3).wf = true) (w4 : (Lit.int .u64 a4).wf = true) (w5 : (Lit.int .u64 a5).wf = true) (w6 : (Lit.int .u8 a6).wf = true) :
    Calls Try.prog 8 #[.int .u64 a0, .int .u64 a1, .int .u64 a2, .int .u64 a3, .int .u64 a4, .int .u64 a5, .int .u8 a6] w fun e w' => e = .returned (.bool true) ∧ Below w.heap.size w w' := by
  obtain ⟨k, h⟩ := P a0 a1 a2 a3 a4 a5 a6 w0 w1 w2 w3 w4 w5 w6
  refine (wardenlaw03_TnumSound.calls k a0 a1 a2 a3 a4 a5 a6 true w ⟨rfl⟩ h).mono ?_
  rintro e w' ⟨rfl, hd⟩
  exact ⟨rfl, hd⟩

end Go.Proofs.Ytnljfoaacngamaa.PD
