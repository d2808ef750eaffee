-- turned from the kit's print
import Derived.Test.YtnljfoaacngamaaPDx0
import Derived.Test.YtnljfoaacngamaaShort
import Derived.Test.YtnljfoaacngamaaPDx13
import Derived.Test.YtnljfoaacngamaaPDx2r
import Derived.Test.YtnljfoaacngamaaPDx12r
import Derived.Test.YtnljfoaacngamaaPDx2
import Derived.Test.YtnljfoaacngamaaPDx12
namespace Go.Proofs.Ytnljfoaacngamaa.PD
open Go.RowKit Go.Proofs.YtnljfoaacngamaaW.PrintWords Go.Proofs.YtnljfoaacngamaaW.PrintLast Go.Proofs.YtnljfoaacngamaaW.PrintMore
attribute [local go_sem] max2_int min2_int max_two min_two max_three min_three max_four min_four   -- for this text's walks alone
set_option linter.unusedVariables false
set_option linter.unusedSimpArgs false

/-! ### wardenref03_Mul: function 34 -/
def wardenref03_Mul.l0 : Nat → Int → Int → Int → Int → Int → Int → Int → Option (Int × Int)
 | 0, _, _, _, _, _, _, _ => none
 | k + 1, x6, x345000, x345001, x346000, x346001, x348000, x348001 => if x6 < 64 then ((wardenref03_bit.f x345000 x345001 x6).bind fun t350 => (if t350 = 1 then (if 0 ≤ (IntKind.u64.wrap (x6)) then ((wardenref03_Add.f x348000 x348001 0 (shl .u64 x346001 (IntKind.u64.wrap (x6)))).bind fun bt351 => (wardenref03_Mul.l0 k (wrap64 (x6 + 1)) x345000 x345001 x346000 x346001 bt351.1 bt351.2)) else (none)) else (if t350 = 2 then (if 0 ≤ (IntKind.u64.wrap (x6)) then ((wardenref03_Add.f x348000 x348001 0 (shl .u64 (Go.bits .or .u64 x346000 x346001) (IntKind.u64.wrap (x6)))).bind fun bt353 => (wardenref03_Mul.l0 k (wrap64 (x6 + 1)) x345000 x345001 x346000 x346001 bt353.1 bt353.2)) else (none)) else (wardenref03_Mul.l0 k (wrap64 (x6 + 1)) x345000 x345001 x346000 x346001 x348000 x348001)))) else ((wardenref03_Add.f x348000 x348001 (IntKind.u64.wrap (x345000 * x346000)) 0).bind fun bt348 => (some (bt348.1, bt348.2)))
def wardenref03_Mul.f (k : Nat) (a0_0 : Int) (a0_1 : Int) (a1_0 : Int) (a1_1 : Int) : Option (Int × Int) := wardenref03_Mul.l0 k 0 a0_0 a0_1 a1_0 a1_1 0 0
theorem wardenref03_Mul.mono_l : ∀ k, (∀ y0 y1 y2 y3 y4 y5 y6, LeO (wardenref03_Mul.l0 k y0 y1 y2 y3 y4 y5 y6) (wardenref03_Mul.l0 (k + 1) y0 y1 y2 y3 y4 y5 y6))
 | 0 => fun _ _ _ _ _ _ _ r h => by simp [wardenref03_Mul.l0] at h
 | k + 1 => by
  have ih0 := wardenref03_Mul.mono_l k
  ·intro y0 y1 y2 y3 y4 y5 y6
   unfold wardenref03_Mul.l0
   repeat' first
   | (with_reducible exact ih0 _ _ _ _ _ _ _)
   | (with_reducible exact LeO.refl _)
   | (with_reducible exact LeO.none _)
   | (with_reducible refine LeO.ite ?_ ?_)
   | (with_reducible refine LeO.bind ?_ (fun _ => ?_))
   | exact ih0 _ _ _ _ _ _ _
   | exact LeO.none _
   | refine LeO.ite ?_ ?_
   | refine LeO.bind ?_ (fun _ => ?_)
theorem wardenref03_Mul.mono : ∀ a0 a1 a2 a3 k, LeO (wardenref03_Mul.f k a0 a1 a2 a3) (wardenref03_Mul.f (k + 1) a0 a1 a2 a3) := by
 intro a0 a1 a2 a3 k
 have ih0 := wardenref03_Mul.mono_l k
 unfold wardenref03_Mul.f
 repeat' first
   | (with_reducible exact ih0 _ _ _ _ _ _ _)
   | (with_reducible exact LeO.refl _)
   | (with_reducible exact LeO.none _)
   | (with_reducible refine LeO.ite ?_ ?_)
   | (with_reducible refine LeO.bind ?_ (fun _ => ?_))
   | exact ih0 _ _ _ _ _ _ _
   | exact LeO.none _
   | refine LeO.ite ?_ ?_
   | refine LeO.bind ?_ (fun _ => ?_)
set_option maxHeartbeats 8000000 in
set_option maxRecDepth 100000 in
theorem wardenref03_Mul.calls (k : Nat) (a0_0 : Int) (a0_1 : Int) (a1_0 : Int) (a1_1 : Int) (r1 : Int) (r2 : Int) (w : World) (h : wardenref03_Mul.f k a0_0 a0_1 a1_0 a1_1 = some (r1, r2)) :
  Calls Try.prog 34 #[.agg #[.int .u64 a0_0, .int .u64 a0_1], .agg #[.int .u64 a1_0, .int .u64 a1_1]] w fun e w' => e = .returned (.agg #[.int .u64 r1, .int .u64 r2]) ∧ Below w.heap.size w w' := by
 have hu24 := Try.underlying24
 have HB := am (Below.refl w.heap.size w)
 have H : (wardenref03_Mul.l0 k 0 a0_0 a0_1 a1_0 a1_1 0 0) = some (r1, r2) := h
 clear h
 have H' := am H
 clear H
 go_enter Try.func34, Try.ntmps34
 go_wp2_with (first | ((with_reducible refine gate_dst (N := 2) rfl ?_); refine box_event ?hg (N := 2) ?hd (cs := #[.int .u64 a0_0, .int .u64 a0_1]) (t := 24) ?hr ?_; (case hd => rfl); (case hg => rfl); (case hr => first | (go_simp; done) | (go_simp; rfl)); intro gb344 hg w3 hbox hb; have n0_ := am (below_step HB.out hb); have n1_ := am (hbox); have n2_ := am ((by rw [hg]; exact (below_size HB.out) : w.heap.size ≤ gb344)); have n3_ := am ((by rw [hg]; exact (below_size HB.out) : w.heap.size ≤ gb344)); clear HB; have HB := n0_; have BK344 := n1_; have GW344 := n2_; have GE344 := n3_; clear n0_ n1_ n2_ n3_; clear hb hbox hg) | ((with_reducible refine gate_dst (N := 3) rfl ?_); refine box_event ?hg (N := 3) ?hd (cs := #[.int .u64 a1_0, .int .u64 a1_1]) (t := 24) ?hr ?_; (case hd => rfl); (case hg => rfl); (case hr => first | (go_simp; done) | (go_simp; rfl)); intro gb345 hg w4 hbox hb; have n0_ := am (blk_below BK344.out hb); have n1_ := am (below_step (by repeat (first | exact HB.out | refine below_set ?_ GE344.out)) hb); have n2_ := am (hbox); have n3_ := am ((by rw [hg]; exact (below_size (by repeat (first | exact HB.out | refine below_set ?_ GE344.out))) : w.heap.size ≤ gb345)); have n4_ := am ((by rw [hg]; exact (below_size (by repeat (first | exact HB.out | refine below_set ?_ GE344.out))) : w.heap.size ≤ gb345)); have n5_ := am ((by rw [hg]; exact Nat.ne_of_lt (blk_lt BK344.out) : gb344 ≠ gb345)); have n6_ := am ((by rw [hg]; exact Nat.ne_of_gt (blk_lt BK344.out) : gb345 ≠ gb344)); clear BK344; clear HB; have BK344 := n0_; have HB := n1_; have BK345 := n2_; have GW345 := n3_; have GE345 := n4_; have NB344_345 := n5_; have NB345_344 := n6_; clear n0_ n1_ n2_ n3_ n4_ n5_ n6_; clear hb hbox hg) | ((with_reducible refine gate_dst (N := 4) rfl ?_); refine box_event ?hg (N := 4) ?hd (cs := #[.int .u64 0, .int .u64 0]) (t := 24) ?hr ?_; (case hd => rfl); (case hg => rfl); (case hr => first | (go_simp; done) | (go_simp; rfl)); intro gb346 hg w5 hbox hb; have n0_ := am (blk_below BK344.out hb); have n1_ := am (blk_below BK345.out hb); have n2_ := am (below_step (by repeat (first | exact HB.out | refine below_set ?_ GE344.out | refine below_set ?_ GE345.out)) hb); have n3_ := am (hbox); have n4_ := am ((by rw [hg]; exact (below_size (by repeat (first | exact HB.out | refine below_set ?_ GE344.out | refine below_set ?_ GE345.out))) : w.heap.size ≤ gb346)); have n5_ := am ((by rw [hg]; exact (below_size (by repeat (first | exact HB.out | refine below_set ?_ GE344.out | refine below_set ?_ GE345.out))) : w.heap.size ≤ gb346)); have n6_ := am ((by rw [hg]; exact Nat.ne_of_lt (blk_lt BK344.out) : gb344 ≠ gb346)); have n7_ := am ((by rw [hg]; exact Nat.ne_of_gt (blk_lt BK344.out) : gb346 ≠ gb344)); have n8_ := am ((by rw [hg]; exact Nat.ne_of_lt (blk_lt BK345.out) : gb345 ≠ gb346)); have n9_ := am ((by rw [hg]; exact Nat.ne_of_gt (blk_lt BK345.out) : gb346 ≠ gb345)); clear BK344; clear BK345; clear HB; have BK344 := n0_; have BK345 := n1_; have HB := n2_; have BK346 := n3_; have GW346 := n4_; have GE346 := n5_; have NB344_346 := n6_; have NB346_344 := n7_; have NB345_346 := n8_; have NB346_345 := n9_; clear n0_ n1_ n2_ n3_ n4_ n5_ n6_ n7_ n8_ n9_; clear hb hbox hg) | ((with_reducible refine gate_dst (N := 5) rfl ?_); refine box_event ?hg (N := 5) ?hd (cs := #[.int .u64 0, .int .u64 0]) (t := 24) ?hr ?_; (case hd => rfl); (case hg => rfl); (case hr => first | (go_simp; done) | (go_simp; rfl)); intro gb347 hg w6 hbox hb; have n0_ := am (blk_below BK344.out hb); have n1_ := am (blk_below BK345.out hb); have n2_ := am (blk_below BK346.out hb); have n3_ := am (below_step (by repeat (first | exact HB.out | refine below_set ?_ GE344.out | refine below_set ?_ GE345.out | refine below_set ?_ GE346.out)) hb); have n4_ := am (hbox); have n5_ := am ((by rw [hg]; exact (below_size (by repeat (first | exact HB.out | refine below_set ?_ GE344.out | refine below_set ?_ GE345.out | refine below_set ?_ GE346.out))) : w.heap.size ≤ gb347)); have n6_ := am ((by rw [hg]; exact (below_size (by repeat (first | exact HB.out | refine below_set ?_ GE344.out | refine below_set ?_ GE345.out | refine below_set ?_ GE346.out))) : w.heap.size ≤ gb347)); have n7_ := am ((by rw [hg]; exact Nat.ne_of_lt (blk_lt BK344.out) : gb344 ≠ gb347)); have n8_ := am ((by rw [hg]; exact Nat.ne_of_gt (blk_lt BK344.out) : gb347 ≠ gb344)); have n9_ := am ((by rw [hg]; exact Nat.ne_of_lt (blk_lt BK345.out) : gb345 ≠ gb347)); have n10_ := am ((by rw [hg]; exact Nat.ne_of_gt (blk_lt BK345.out) : gb347 ≠ gb345)); have n11_ := am ((by rw [hg]; exact Nat.ne_of_lt (blk_lt BK346.out) : gb346 ≠ gb347)); have n12_ := am ((by rw [hg]; exact Nat.ne_of_gt (blk_lt BK346.out) : gb347 ≠ gb346)); clear BK344; clear BK345; clear BK346; clear HB; have BK344 := n0_; have BK345 := n1_; have BK346 := n2_; have HB := n3_; have BK347 := n4_; have GW347 := n5_; have GE347 := n6_; have NB344_347 := n7_; have NB347_344 := n8_; have NB345_347 := n9_; have NB347_345 := n10_; have NB346_347 := n11_; have NB347_346 := n12_; clear n0_ n1_ n2_ n3_ n4_ n5_ n6_ n7_ n8_ n9_ n10_ n11_ n12_; clear hb hbox hg; have hnb7 := NB347_344.out; have hnc7 := NB344_347.out; have hnb8 := NB347_345.out; have hnc8 := NB345_347.out; have hnb9 := NB347_346.out; have hnc9 := NB346_347.out; have hcz10_0 : w6.cell? ⟨gb347, 0, none⟩ = some (.int .u64 0) := (blk_cell BK347.out 0).trans rfl; have hcz10_1 : w6.cell? ⟨gb347, 1, none⟩ = some (.int .u64 0) := (blk_cell BK347.out 1).trans rfl; have hfz10_0 := blk_frozen BK347.out 0; have hfz10_1 := blk_frozen BK347.out 1))
 go_loopg [6] k (fun kq v6 w' => ∃ (x6_1 : Int) (x348000_1 : Int) (x348001_1 : Int), v6 = .int .i64 x6_1 ∧ Aside0 (wardenref03_Mul.l0 kq x6_1 a0_0 a0_1 a1_0 a1_1 x348000_1 x348001_1 = some (r1, r2)) ∧ Aside0 (kq ≤ k) ∧ Aside0 (w'.heap[gb344]? = some (.cells #[.int .u64 a0_0, .int .u64 a0_1] 24 (0, 0))) ∧ Aside0 (w'.heap[gb345]? = some (.cells #[.int .u64 a1_0, .int .u64 a1_1] 24 (0, 0))) ∧ Aside0 (w'.heap[gb346]? = some (.cells #[.int .u64 0, .int .u64 0] 24 (0, 0))) ∧ Aside0 (w'.heap[gb347]? = some (.cells #[.int .u64 x348000_1, .int .u64 x348001_1] 24 (0, 0))) ∧ Aside0 (Below w.heap.size w w'))
 case atStart => exact ⟨(0), (0), (0), (by first | rfl | (simp; done) | (simp [*]; done)), H', ⟨Nat.le_refl _⟩, ⟨by (with_reducible repeat (first | refine blk_drewN ?_ _ | refine blk_drew ?_ | refine blk_alloc ?_ _)); refine blk_far ?_ NB344_347.out _; (with_reducible repeat (first | refine blk_drewN ?_ _ | refine blk_drew ?_ | refine blk_alloc ?_ _)); refine blk_far ?_ NB344_347.out _; (with_reducible repeat (first | refine blk_drewN ?_ _ | refine blk_drew ?_ | refine blk_alloc ?_ _)); exact BK344.out⟩, ⟨by (with_reducible repeat (first | refine blk_drewN ?_ _ | refine blk_drew ?_ | refine blk_alloc ?_ _)); refine blk_far ?_ NB345_347.out _; (with_reducible repeat (first | refine blk_drewN ?_ _ | refine blk_drew ?_ | refine blk_alloc ?_ _)); refine blk_far ?_ NB345_347.out _; (with_reducible repeat (first | refine blk_drewN ?_ _ | refine blk_drew ?_ | refine blk_alloc ?_ _)); exact BK345.out⟩, ⟨by (with_reducible repeat (first | refine blk_drewN ?_ _ | refine blk_drew ?_ | refine blk_alloc ?_ _)); refine blk_far ?_ NB346_347.out _; (with_reducible repeat (first | refine blk_drewN ?_ _ | refine blk_drew ?_ | refine blk_alloc ?_ _)); refine blk_far ?_ NB346_347.out _; (with_reducible repeat (first | refine blk_drewN ?_ _ | refine blk_drew ?_ | refine blk_alloc ?_ _)); exact BK346.out⟩, ⟨by (with_reducible repeat (first | refine blk_drewN ?_ _ | refine blk_drew ?_ | refine blk_alloc ?_ _)); refine blk_put (cs := #[.int .u64 0, .int .u64 0]) ?_ 1 _ rfl; (with_reducible repeat (first | refine blk_drewN ?_ _ | refine blk_drew ?_ | refine blk_alloc ?_ _)); refine blk_put (cs := #[.int .u64 0, .int .u64 0]) ?_ 0 _ rfl; (with_reducible repeat (first | refine blk_drewN ?_ _ | refine blk_drew ?_ | refine blk_alloc ?_ _)); exact BK347.out⟩, ⟨by repeat (first | (with_reducible first | exact HB.out | apply below_alloc | apply pw_below_drewN | apply below_drew1 | refine below_set ?_ GE344.out | refine below_set ?_ GE345.out | refine below_set ?_ GE346.out | refine below_set ?_ GE347.out) | exact HB.out)⟩⟩
 case round =>
  clear H'
  try clear p2
  try clear c3
  try clear c7
  try clear c8
  try clear c9
  try clear hcz10_0
  try clear hcz10_1
  try clear hfz10_0
  try clear hfz10_1
  obtain ⟨x6_1, x348000_1, x348001_1, rfl, HA, HK1, BK344, BK345, BK346, BK347, HB⟩ := hrel
  cases gk with
  | zero => exact absurd HA.out (by simp [wardenref03_Mul.l0])
  | succ k1 =>
   have H := HA.out
   clear HA
   simp only [wardenref03_Mul.l0] at H
   by_cases c11 : x6_1 < 64
   ·rw [if_pos c11] at H
    have c11b0 : decide (x6_1 < 64) = true := decide_eq_true c11
    clear c11
    replace H := Option.bind_eq_some_iff.mp H
    obtain ⟨t350, A120, H⟩ := H
    replace H : (if t350 = 1 then (if 0 ≤ (IntKind.u64.wrap (x6_1)) then ((wardenref03_Add.f x348000_1 x348001_1 0 (shl .u64 a1_1 (IntKind.u64.wrap (x6_1)))).bind fun bt351 => (wardenref03_Mul.l0 k1 (wrap64 (x6_1 + 1)) a0_0 a0_1 a1_0 a1_1 bt351.1 bt351.2)) else (none)) else (if t350 = 2 then (if 0 ≤ (IntKind.u64.wrap (x6_1)) then ((wardenref03_Add.f x348000_1 x348001_1 0 (shl .u64 (Go.bits .or .u64 a1_0 a1_1) (IntKind.u64.wrap (x6_1)))).bind fun bt353 => (wardenref03_Mul.l0 k1 (wrap64 (x6_1 + 1)) a0_0 a0_1 a1_0 a1_1 bt353.1 bt353.2)) else (none)) else (wardenref03_Mul.l0 k1 (wrap64 (x6_1 + 1)) a0_0 a0_1 a1_0 a1_1 x348000_1 x348001_1))) = some (r1, r2) := H
    have A12 := am A120
    clear A120
    by_cases c13 : t350 = 1
    ·rw [if_pos c13] at H
     have c13b0 : (t350 == 1) = true := beq_iff_eq.mpr c13
     have c13b1 : (t350 != 1) = false := bne_eq_false_iff_eq.mpr c13
     clear c13
     obtain ⟨ji14, hji14⟩ : ∃ j_ : Int, (IntKind.u64.wrap (x6_1)) = j_ := ⟨_, rfl⟩
     replace H : (if 0 ≤ (ji14) then ((wardenref03_Add.f x348000_1 x348001_1 0 (shl .u64 a1_1 (ji14))).bind fun bt351 => (wardenref03_Mul.l0 k1 (wrap64 (x6_1 + 1)) a0_0 a0_1 a1_0 a1_1 bt351.1 bt351.2)) else (none)) = some (r1, r2) := by first | (rw [hji14] at H; exact H) | (simp only [hji14] at H ⊢; exact H)
     (try rw [hji14] at A12)
     by_cases c15 : 0 ≤ (ji14)
     ·rw [if_pos c15] at H
      have c15b0 := eq_true c15
      have c15b1 : decide (0 ≤ (ji14)) = true := decide_eq_true c15
      clear c15
      obtain ⟨ji16, hji16⟩ : ∃ j_ : Int, (shl .u64 a1_1 (ji14)) = j_ := ⟨_, rfl⟩
      replace H : ((wardenref03_Add.f x348000_1 x348001_1 0 (ji16)).bind fun bt351 => (wardenref03_Mul.l0 k1 (wrap64 (x6_1 + 1)) a0_0 a0_1 a1_0 a1_1 bt351.1 bt351.2)) = some (r1, r2) := by first | (rw [hji16] at H; exact H) | (simp only [hji16] at H ⊢; exact H)
      (try rw [hji16] at A12)
      have hji16_ : (IntKind.u64.wrap (a1_1 * 2 ^ min (ji14).toNat 64)) = ji16 := hji16
      have hji16z : (ji14) ≤ 64 → (IntKind.u64.wrap (a1_1 * 2 ^ (ji14).toNat)) = ji16 := shl_small hji16
      replace H := Option.bind_eq_some_iff.mp H
      obtain ⟨⟨t351, t352⟩, A170, H⟩ := H
      replace H : (wardenref03_Mul.l0 k1 (wrap64 (x6_1 + 1)) a0_0 a0_1 a1_0 a1_1 t351 t352) = some (r1, r2) := H
      have A17 := am A170
      clear A170
      have H' := am H
      clear H
      have hnb18 := NB344_345.out
      have hnc18 := NB345_344.out
      have hnb19 := NB344_346.out
      have hnc19 := NB346_344.out
      have hnb20 := NB344_347.out
      have hnc20 := NB347_344.out
      have hcz21_0 : wr.cell? ⟨gb344, 0, none⟩ = some (.int .u64 a0_0) := (blk_cell BK344.out 0).trans rfl
      have hcz21_1 : wr.cell? ⟨gb344, 1, none⟩ = some (.int .u64 a0_1) := (blk_cell BK344.out 1).trans rfl
      have hfz21_0 := blk_frozen BK344.out 0
      have hfz21_1 := blk_frozen BK344.out 1
      go_wp2_with (first | ((with_reducible refine gate_callee (f := 40) rfl ?_); refine goesL_ (some 14) rfl rfl Try.func40 (by kernel_rfl) rfl #[.agg #[.int .u64 a0_0, .int .u64 a0_1], .int .i64 x6_1] rfl (by (try simp only [List.map_toArray, List.map_cons, List.map_nil]); first | done | rfl) ?_; (with_reducible refine (wardenref03_bit.calls a0_0 a0_1 x6_1 t350 _ A12.out).mono ?_); rintro e w22 ⟨rfl, hb⟩; refine ⟨_, rfl, ?_⟩; have n0_ := am (blk_below BK344.out hb); have n1_ := am (blk_below BK345.out hb); have n2_ := am (blk_below BK346.out hb); have n3_ := am (blk_below BK347.out hb); have n4_ := am (below_step (by repeat (first | exact HB.out | refine below_set ?_ GE344.out | refine below_set ?_ GE345.out | refine below_set ?_ GE346.out | refine below_set ?_ GE347.out)) hb); clear BK344; clear BK345; clear BK346; clear BK347; clear HB; have BK344 := n0_; have BK345 := n1_; have BK346 := n2_; have BK347 := n3_; have HB := n4_; clear n0_ n1_ n2_ n3_ n4_; (try clear hb); (try clear hb2); (try clear hk); (try clear hi); have hnb23 := NB347_345.out; have hnc23 := NB345_347.out; have hnb24 := NB347_346.out; have hnc24 := NB346_347.out; have hcz25_0 : w22.cell? ⟨gb347, 0, none⟩ = some (.int .u64 x348000_1) := (blk_cell BK347.out 0).trans rfl; have hcz25_1 : w22.cell? ⟨gb347, 1, none⟩ = some (.int .u64 x348001_1) := (blk_cell BK347.out 1).trans rfl; have hfz25_0 := blk_frozen BK347.out 0; have hfz25_1 := blk_frozen BK347.out 1; have hnb26 := NB345_346.out; have hnc26 := NB346_345.out; have hcz27_0 : w22.cell? ⟨gb345, 0, none⟩ = some (.int .u64 a1_0) := (blk_cell BK345.out 0).trans rfl; have hcz27_1 : w22.cell? ⟨gb345, 1, none⟩ = some (.int .u64 a1_1) := (blk_cell BK345.out 1).trans rfl; have hfz27_0 := blk_frozen BK345.out 0; have hfz27_1 := blk_frozen BK345.out 1) | ((with_reducible refine gate_callee (f := 30) rfl ?_); refine goesL_ (some 24) rfl rfl Try.func30 (by kernel_rfl) rfl #[.agg #[.int .u64 x348000_1, .int .u64 x348001_1], .agg #[.int .u64 0, .int .u64 ji16]] rfl (by (try simp only [List.map_toArray, List.map_cons, List.map_nil]); first | done | (simp only [hji16]; rfl) | rfl | (simp only [List.length_drop, List.length_take]; rfl)) ?_; (with_reducible refine (wardenref03_Add.calls x348000_1 x348001_1 0 ji16 t351 t352 _ A17.out).mono ?_); rintro e w28 ⟨rfl, hb⟩; refine ⟨_, rfl, ?_⟩; have n0_ := am (blk_below BK344.out hb); have n1_ := am (blk_below BK345.out hb); have n2_ := am (blk_below BK346.out hb); have n3_ := am (blk_below BK347.out hb); have n4_ := am (below_step (by repeat (first | exact HB.out | refine below_set ?_ GE344.out | refine below_set ?_ GE345.out | refine below_set ?_ GE346.out | refine below_set ?_ GE347.out)) hb); clear BK344; clear BK345; clear BK346; clear BK347; clear HB; have BK344 := n0_; have BK345 := n1_; have BK346 := n2_; have BK347 := n3_; have HB := n4_; clear n0_ n1_ n2_ n3_ n4_; (try clear hb); (try clear hb2); (try clear hk); (try clear hi); have hcz29_0 : w28.cell? ⟨gb347, 0, none⟩ = some (.int .u64 x348000_1) := (blk_cell BK347.out 0).trans rfl; have hcz29_1 : w28.cell? ⟨gb347, 1, none⟩ = some (.int .u64 x348001_1) := (blk_cell BK347.out 1).trans rfl; have hfz29_0 := blk_frozen BK347.out 0; have hfz29_1 := blk_frozen BK347.out 1))
      go_roundg k1
      case measure => have := HK1.out; omega
      case rel => exact ⟨(wrap64 (x6_1 + 1)), (t351), (t352), (by first | rfl | (simp; done) | (simp [*]; done)), H', ⟨by have := HK1.out; omega⟩, ⟨by (with_reducible repeat (first | refine blk_drewN ?_ _ | refine blk_drew ?_ | refine blk_alloc ?_ _)); refine blk_far ?_ NB344_347.out _; (with_reducible repeat (first | refine blk_drewN ?_ _ | refine blk_drew ?_ | refine blk_alloc ?_ _)); refine blk_far ?_ NB344_347.out _; (with_reducible repeat (first | refine blk_drewN ?_ _ | refine blk_drew ?_ | refine blk_alloc ?_ _)); exact BK344.out⟩, ⟨by (with_reducible repeat (first | refine blk_drewN ?_ _ | refine blk_drew ?_ | refine blk_alloc ?_ _)); refine blk_far ?_ NB345_347.out _; (with_reducible repeat (first | refine blk_drewN ?_ _ | refine blk_drew ?_ | refine blk_alloc ?_ _)); refine blk_far ?_ NB345_347.out _; (with_reducible repeat (first | refine blk_drewN ?_ _ | refine blk_drew ?_ | refine blk_alloc ?_ _)); exact BK345.out⟩, ⟨by (with_reducible repeat (first | refine blk_drewN ?_ _ | refine blk_drew ?_ | refine blk_alloc ?_ _)); refine blk_far ?_ NB346_347.out _; (with_reducible repeat (first | refine blk_drewN ?_ _ | refine blk_drew ?_ | refine blk_alloc ?_ _)); refine blk_far ?_ NB346_347.out _; (with_reducible repeat (first | refine blk_drewN ?_ _ | refine blk_drew ?_ | refine blk_alloc ?_ _)); exact BK346.out⟩, ⟨by (with_reducible repeat (first | refine blk_drewN ?_ _ | refine blk_drew ?_ | refine blk_alloc ?_ _)); refine blk_put (cs := #[.int .u64 t351, .int .u64 x348001_1]) ?_ 1 _ rfl; (with_reducible repeat (first | refine blk_drewN ?_ _ | refine blk_drew ?_ | refine blk_alloc ?_ _)); refine blk_put (cs := #[.int .u64 x348000_1, .int .u64 x348001_1]) ?_ 0 _ rfl; (with_reducible repeat (first | refine blk_drewN ?_ _ | refine blk_drew ?_ | refine blk_alloc ?_ _)); exact BK347.out⟩, ⟨by repeat (first | (with_reducible first | exact HB.out | apply below_alloc | apply pw_below_drewN | apply below_drew1 | refine below_set ?_ GE344.out | refine below_set ?_ GE345.out | refine below_set ?_ GE346.out | refine below_set ?_ GE347.out) | exact HB.out)⟩⟩
     ·rw [if_neg c15] at H
      exact absurd H (by simp)
    ·rw [if_neg c13] at H
     have c13b0 : (t350 == 1) = false := beq_eq_false_iff_ne.mpr c13
     have c13b1 : (t350 != 1) = true := bne_iff_ne.mpr c13
     by_cases c30 : t350 = 2
     ·rw [if_pos c30] at H
      have c30b0 : (t350 == 2) = true := beq_iff_eq.mpr c30
      have c30b1 : (t350 != 2) = false := bne_eq_false_iff_eq.mpr c30
      clear c30
      obtain ⟨ji31, hji31⟩ : ∃ j_ : Int, (IntKind.u64.wrap (x6_1)) = j_ := ⟨_, rfl⟩
      replace H : (if 0 ≤ (ji31) then ((wardenref03_Add.f x348000_1 x348001_1 0 (shl .u64 (Go.bits .or .u64 a1_0 a1_1) (ji31))).bind fun bt353 => (wardenref03_Mul.l0 k1 (wrap64 (x6_1 + 1)) a0_0 a0_1 a1_0 a1_1 bt353.1 bt353.2)) else (none)) = some (r1, r2) := by first | (rw [hji31] at H; exact H) | (simp only [hji31] at H ⊢; exact H)
      (try rw [hji31] at A12)
      by_cases c32 : 0 ≤ (ji31)
      ·rw [if_pos c32] at H
       have c32b0 := eq_true c32
       have c32b1 : decide (0 ≤ (ji31)) = true := decide_eq_true c32
       clear c32
       obtain ⟨ji33, hji33⟩ : ∃ j_ : Int, (shl .u64 (Go.bits .or .u64 a1_0 a1_1) (ji31)) = j_ := ⟨_, rfl⟩
       replace H : ((wardenref03_Add.f x348000_1 x348001_1 0 (ji33)).bind fun bt353 => (wardenref03_Mul.l0 k1 (wrap64 (x6_1 + 1)) a0_0 a0_1 a1_0 a1_1 bt353.1 bt353.2)) = some (r1, r2) := by first | (rw [hji33] at H; exact H) | (simp only [hji33] at H ⊢; exact H)
       (try rw [hji33] at A12)
       have hji33_ : (IntKind.u64.wrap ((Go.bits .or .u64 a1_0 a1_1) * 2 ^ min (ji31).toNat 64)) = ji33 := hji33
       have hji33z : (ji31) ≤ 64 → (IntKind.u64.wrap ((Go.bits .or .u64 a1_0 a1_1) * 2 ^ (ji31).toNat)) = ji33 := shl_small hji33
       replace H := Option.bind_eq_some_iff.mp H
       obtain ⟨⟨t353, t354⟩, A340, H⟩ := H
       replace H : (wardenref03_Mul.l0 k1 (wrap64 (x6_1 + 1)) a0_0 a0_1 a1_0 a1_1 t353 t354) = some (r1, r2) := H
       have A34 := am A340
       clear A340
       have H' := am H
       clear H
       have hnb35 := NB344_345.out
       have hnc35 := NB345_344.out
       have hnb36 := NB344_346.out
       have hnc36 := NB346_344.out
       have hnb37 := NB344_347.out
       have hnc37 := NB347_344.out
       have hcz38_0 : wr.cell? ⟨gb344, 0, none⟩ = some (.int .u64 a0_0) := (blk_cell BK344.out 0).trans rfl
       have hcz38_1 : wr.cell? ⟨gb344, 1, none⟩ = some (.int .u64 a0_1) := (blk_cell BK344.out 1).trans rfl
       have hfz38_0 := blk_frozen BK344.out 0
       have hfz38_1 := blk_frozen BK344.out 1
       go_wp2_with (first | ((with_reducible refine gate_callee (f := 40) rfl ?_); refine goesL_ (some 14) rfl rfl Try.func40 (by kernel_rfl) rfl #[.agg #[.int .u64 a0_0, .int .u64 a0_1], .int .i64 x6_1] rfl (by (try simp only [List.map_toArray, List.map_cons, List.map_nil]); first | done | rfl) ?_; (with_reducible refine (wardenref03_bit.calls a0_0 a0_1 x6_1 t350 _ A12.out).mono ?_); rintro e w39 ⟨rfl, hb⟩; refine ⟨_, rfl, ?_⟩; have n0_ := am (blk_below BK344.out hb); have n1_ := am (blk_below BK345.out hb); have n2_ := am (blk_below BK346.out hb); have n3_ := am (blk_below BK347.out hb); have n4_ := am (below_step (by repeat (first | exact HB.out | refine below_set ?_ GE344.out | refine below_set ?_ GE345.out | refine below_set ?_ GE346.out | refine below_set ?_ GE347.out)) hb); clear BK344; clear BK345; clear BK346; clear BK347; clear HB; have BK344 := n0_; have BK345 := n1_; have BK346 := n2_; have BK347 := n3_; have HB := n4_; clear n0_ n1_ n2_ n3_ n4_; (try clear hb); (try clear hb2); (try clear hk); (try clear hi); have hnb40 := NB347_345.out; have hnc40 := NB345_347.out; have hnb41 := NB347_346.out; have hnc41 := NB346_347.out; have hcz42_0 : w39.cell? ⟨gb347, 0, none⟩ = some (.int .u64 x348000_1) := (blk_cell BK347.out 0).trans rfl; have hcz42_1 : w39.cell? ⟨gb347, 1, none⟩ = some (.int .u64 x348001_1) := (blk_cell BK347.out 1).trans rfl; have hfz42_0 := blk_frozen BK347.out 0; have hfz42_1 := blk_frozen BK347.out 1; have hnb43 := NB345_346.out; have hnc43 := NB346_345.out; have hcz44_0 : w39.cell? ⟨gb345, 0, none⟩ = some (.int .u64 a1_0) := (blk_cell BK345.out 0).trans rfl; have hcz44_1 : w39.cell? ⟨gb345, 1, none⟩ = some (.int .u64 a1_1) := (blk_cell BK345.out 1).trans rfl; have hfz44_0 := blk_frozen BK345.out 0; have hfz44_1 := blk_frozen BK345.out 1) | ((with_reducible refine gate_callee (f := 30) rfl ?_); refine goesL_ (some 37) rfl rfl Try.func30 (by kernel_rfl) rfl #[.agg #[.int .u64 x348000_1, .int .u64 x348001_1], .agg #[.int .u64 0, .int .u64 ji33]] rfl (by (try simp only [List.map_toArray, List.map_cons, List.map_nil]); first | done | (simp only [hji33]; rfl) | rfl | (simp only [List.length_drop, List.length_take]; rfl)) ?_; (with_reducible refine (wardenref03_Add.calls x348000_1 x348001_1 0 ji33 t353 t354 _ A34.out).mono ?_); rintro e w45 ⟨rfl, hb⟩; refine ⟨_, rfl, ?_⟩; have n0_ := am (blk_below BK344.out hb); have n1_ := am (blk_below BK345.out hb); have n2_ := am (blk_below BK346.out hb); have n3_ := am (blk_below BK347.out hb); have n4_ := am (below_step (by repeat (first | exact HB.out | refine below_set ?_ GE344.out | refine below_set ?_ GE345.out | refine below_set ?_ GE346.out | refine below_set ?_ GE347.out)) hb); clear BK344; clear BK345; clear BK346; clear BK347; clear HB; have BK344 := n0_; have BK345 := n1_; have BK346 := n2_; have BK347 := n3_; have HB := n4_; clear n0_ n1_ n2_ n3_ n4_; (try clear hb); (try clear hb2); (try clear hk); (try clear hi); have hcz46_0 : w45.cell? ⟨gb347, 0, none⟩ = some (.int .u64 x348000_1) := (blk_cell BK347.out 0).trans rfl; have hcz46_1 : w45.cell? ⟨gb347, 1, none⟩ = some (.int .u64 x348001_1) := (blk_cell BK347.out 1).trans rfl; have hfz46_0 := blk_frozen BK347.out 0; have hfz46_1 := blk_frozen BK347.out 1))
       go_roundg k1
       case measure => have := HK1.out; omega
       case rel => exact ⟨(wrap64 (x6_1 + 1)), (t353), (t354), (by first | rfl | (simp; done) | (simp [*]; done)), H', ⟨by have := HK1.out; omega⟩, ⟨by (with_reducible repeat (first | refine blk_drewN ?_ _ | refine blk_drew ?_ | refine blk_alloc ?_ _)); refine blk_far ?_ NB344_347.out _; (with_reducible repeat (first | refine blk_drewN ?_ _ | refine blk_drew ?_ | refine blk_alloc ?_ _)); refine blk_far ?_ NB344_347.out _; (with_reducible repeat (first | refine blk_drewN ?_ _ | refine blk_drew ?_ | refine blk_alloc ?_ _)); exact BK344.out⟩, ⟨by (with_reducible repeat (first | refine blk_drewN ?_ _ | refine blk_drew ?_ | refine blk_alloc ?_ _)); refine blk_far ?_ NB345_347.out _; (with_reducible repeat (first | refine blk_drewN ?_ _ | refine blk_drew ?_ | refine blk_alloc ?_ _)); refine blk_far ?_ NB345_347.out _; (with_reducible repeat (first | refine blk_drewN ?_ _ | refine blk_drew ?_ | refine blk_alloc ?_ _)); exact BK345.out⟩, ⟨by (with_reducible repeat (first | refine blk_drewN ?_ _ | refine blk_drew ?_ | refine blk_alloc ?_ _)); refine blk_far ?_ NB346_347.out _; (with_reducible repeat (first | refine blk_drewN ?_ _ | refine blk_drew ?_ | refine blk_alloc ?_ _)); refine blk_far ?_ NB346_347.out _; (with_reducible repeat (first | refine blk_drewN ?_ _ | refine blk_drew ?_ | refine blk_alloc ?_ _)); exact BK346.out⟩, ⟨by (with_reducible repeat (first | refine blk_drewN ?_ _ | refine blk_drew ?_ | refine blk_alloc ?_ _)); refine blk_put (cs := #[.int .u64 t353, .int .u64 x348001_1]) ?_ 1 _ rfl; (with_reducible repeat (first | refine blk_drewN ?_ _ | refine blk_drew ?_ | refine blk_alloc ?_ _)); refine blk_put (cs := #[.int .u64 x348000_1, .int .u64 x348001_1]) ?_ 0 _ rfl; (with_reducible repeat (first | refine blk_drewN ?_ _ | refine blk_drew ?_ | refine blk_alloc ?_ _)); exact BK347.out⟩, ⟨by repeat (first | (with_reducible first | exact HB.out | apply below_alloc | apply pw_below_drewN | apply below_drew1 | refine below_set ?_ GE344.out | refine below_set ?_ GE345.out | refine below_set ?_ GE346.out | refine below_set ?_ GE347.out) | exact HB.out)⟩⟩
      ·rw [if_neg c32] at H
       exact absurd H (by simp)
     ·rw [if_neg c30] at H
      have c30b0 : (t350 == 2) = false := beq_eq_false_iff_ne.mpr c30
      have c30b1 : (t350 != 2) = true := bne_iff_ne.mpr c30
      have H' := am H
      clear H
      have hnb47 := NB344_345.out
      have hnc47 := NB345_344.out
      have hnb48 := NB344_346.out
      have hnc48 := NB346_344.out
      have hnb49 := NB344_347.out
      have hnc49 := NB347_344.out
      have hcz50_0 : wr.cell? ⟨gb344, 0, none⟩ = some (.int .u64 a0_0) := (blk_cell BK344.out 0).trans rfl
      have hcz50_1 : wr.cell? ⟨gb344, 1, none⟩ = some (.int .u64 a0_1) := (blk_cell BK344.out 1).trans rfl
      have hfz50_0 := blk_frozen BK344.out 0
      have hfz50_1 := blk_frozen BK344.out 1
      go_wp2_with (first | ((with_reducible refine gate_callee (f := 40) rfl ?_); refine goesL_ (some 14) rfl rfl Try.func40 (by kernel_rfl) rfl #[.agg #[.int .u64 a0_0, .int .u64 a0_1], .int .i64 x6_1] rfl (by (try simp only [List.map_toArray, List.map_cons, List.map_nil]); first | done | rfl) ?_; (with_reducible refine (wardenref03_bit.calls a0_0 a0_1 x6_1 t350 _ A12.out).mono ?_); rintro e w51 ⟨rfl, hb⟩; refine ⟨_, rfl, ?_⟩; have n0_ := am (blk_below BK344.out hb); have n1_ := am (blk_below BK345.out hb); have n2_ := am (blk_below BK346.out hb); have n3_ := am (blk_below BK347.out hb); have n4_ := am (below_step (by repeat (first | exact HB.out | refine below_set ?_ GE344.out | refine below_set ?_ GE345.out | refine below_set ?_ GE346.out | refine below_set ?_ GE347.out)) hb); clear BK344; clear BK345; clear BK346; clear BK347; clear HB; have BK344 := n0_; have BK345 := n1_; have BK346 := n2_; have BK347 := n3_; have HB := n4_; clear n0_ n1_ n2_ n3_ n4_; (try clear hb); (try clear hb2); (try clear hk); (try clear hi)))
      go_roundg k1
      case measure => have := HK1.out; omega
      case rel => exact ⟨(wrap64 (x6_1 + 1)), (x348000_1), (x348001_1), (by first | rfl | (simp; done) | (simp [*]; done)), H', ⟨by have := HK1.out; omega⟩, ⟨by (with_reducible repeat (first | refine blk_drewN ?_ _ | refine blk_drew ?_ | refine blk_alloc ?_ _)); exact BK344.out⟩, ⟨by (with_reducible repeat (first | refine blk_drewN ?_ _ | refine blk_drew ?_ | refine blk_alloc ?_ _)); exact BK345.out⟩, ⟨by (with_reducible repeat (first | refine blk_drewN ?_ _ | refine blk_drew ?_ | refine blk_alloc ?_ _)); exact BK346.out⟩, ⟨by (with_reducible repeat (first | refine blk_drewN ?_ _ | refine blk_drew ?_ | refine blk_alloc ?_ _)); exact BK347.out⟩, ⟨by repeat (first | (with_reducible first | exact HB.out | apply below_alloc | apply pw_below_drewN | apply below_drew1 | refine below_set ?_ GE344.out | refine below_set ?_ GE345.out | refine below_set ?_ GE346.out | refine below_set ?_ GE347.out) | exact HB.out)⟩⟩
   ·rw [if_neg c11] at H
    have c11b0 : decide (x6_1 < 64) = false := decide_eq_false c11
    clear c11
    replace H := Option.bind_eq_some_iff.mp H
    obtain ⟨⟨t348, t349⟩, A520, H⟩ := H
    replace H : (some (t348, t349)) = some (r1, r2) := H
    have A52 := am A520
    clear A520
    simp only [Option.some.injEq, Prod.mk.injEq] at H
    obtain ⟨rfl, rfl⟩ := H
    have hnb53 := NB347_344.out
    have hnc53 := NB344_347.out
    have hnb54 := NB347_345.out
    have hnc54 := NB345_347.out
    have hnb55 := NB347_346.out
    have hnc55 := NB346_347.out
    have hcz56_0 : wr.cell? ⟨gb347, 0, none⟩ = some (.int .u64 x348000_1) := (blk_cell BK347.out 0).trans rfl
    have hcz56_1 : wr.cell? ⟨gb347, 1, none⟩ = some (.int .u64 x348001_1) := (blk_cell BK347.out 1).trans rfl
    have hfz56_0 := blk_frozen BK347.out 0
    have hfz56_1 := blk_frozen BK347.out 1
    have hnb57 := NB344_345.out
    have hnc57 := NB345_344.out
    have hnb58 := NB344_346.out
    have hnc58 := NB346_344.out
    have hcz59_0 : wr.cell? ⟨gb344, 0, none⟩ = some (.int .u64 a0_0) := (blk_cell BK344.out 0).trans rfl
    have hcz59_1 : wr.cell? ⟨gb344, 1, none⟩ = some (.int .u64 a0_1) := (blk_cell BK344.out 1).trans rfl
    have hfz59_0 := blk_frozen BK344.out 0
    have hfz59_1 := blk_frozen BK344.out 1
    have hnb60 := NB345_346.out
    have hnc60 := NB346_345.out
    have hcz61_0 : wr.cell? ⟨gb345, 0, none⟩ = some (.int .u64 a1_0) := (blk_cell BK345.out 0).trans rfl
    have hcz61_1 : wr.cell? ⟨gb345, 1, none⟩ = some (.int .u64 a1_1) := (blk_cell BK345.out 1).trans rfl
    have hfz61_0 := blk_frozen BK345.out 0
    have hfz61_1 := blk_frozen BK345.out 1
    go_wp2_with (first | ((with_reducible refine gate_callee (f := 30) rfl ?_); refine goesL_ (some 45) rfl rfl Try.func30 (by kernel_rfl) rfl #[.agg #[.int .u64 x348000_1, .int .u64 x348001_1], .agg #[.int .u64 (IntKind.u64.wrap (a0_0 * a1_0)), .int .u64 0]] rfl (by (try simp only [List.map_toArray, List.map_cons, List.map_nil]); first | done | rfl) ?_; (with_reducible refine (wardenref03_Add.calls x348000_1 x348001_1 (IntKind.u64.wrap (a0_0 * a1_0)) 0 t348 t349 _ A52.out).mono ?_); rintro e w62 ⟨rfl, hb⟩; refine ⟨_, rfl, ?_⟩; have n0_ := am (blk_below BK344.out hb); have n1_ := am (blk_below BK345.out hb); have n2_ := am (blk_below BK346.out hb); have n3_ := am (blk_below BK347.out hb); have n4_ := am (below_step (by repeat (first | exact HB.out | refine below_set ?_ GE344.out | refine below_set ?_ GE345.out | refine below_set ?_ GE346.out | refine below_set ?_ GE347.out)) hb); clear BK344; clear BK345; clear BK346; clear BK347; clear HB; have BK344 := n0_; have BK345 := n1_; have BK346 := n2_; have BK347 := n3_; have HB := n4_; clear n0_ n1_ n2_ n3_ n4_; (try clear hb); (try clear hb2); (try clear hk); (try clear hi); have hcz63_0 : w62.cell? ⟨gb346, 0, none⟩ = some (.int .u64 0) := (blk_cell BK346.out 0).trans rfl; have hcz63_1 : w62.cell? ⟨gb346, 1, none⟩ = some (.int .u64 0) := (blk_cell BK346.out 1).trans rfl; have hfz63_0 := blk_frozen BK346.out 0; have hfz63_1 := blk_frozen BK346.out 1))
    refine bodyPost_ret (results_cell_row rfl _ _ gb346 24 #[.int .u64 t348, .int .u64 t349] (0, 0) _ rfl (by (with_reducible repeat (first | refine blk_drewN ?_ _ | refine blk_drew ?_ | refine blk_alloc ?_ _)); refine blk_put (cs := #[.int .u64 t348, .int .u64 0]) ?_ 1 _ rfl; (with_reducible repeat (first | refine blk_drewN ?_ _ | refine blk_drew ?_ | refine blk_alloc ?_ _)); refine blk_put (cs := #[.int .u64 0, .int .u64 0]) ?_ 0 _ rfl; (with_reducible repeat (first | refine blk_drewN ?_ _ | refine blk_drew ?_ | refine blk_alloc ?_ _)); exact BK346.out) Try.underlying24 rfl (by kernel_rfl)) rfl ?_
    exact ⟨by first | rfl | (simp [errW_none, errW_some] <;> rfl) | (simp [*, errW_none, errW_some] <;> rfl), by repeat (first | (with_reducible first | exact HB.out | apply below_alloc | apply pw_below_drewN | apply below_drew1 | refine below_set ?_ GE344.out | refine below_set ?_ GE345.out | refine below_set ?_ GE346.out | refine below_set ?_ GE347.out) | exact HB.out)⟩

/-! ### wardenref03_Shift: function 37 -/
mutual
def wardenref03_Shift.l0 : Nat → Int → Int → Int → Int → Int → Int → Int → Option (Int × Int)
 | 0, _, _, _, _, _, _, _ => none
 | k + 1, x1, x2, x8, x364000, x364001, x366000, x366001 => if x8 < 64 then (if x1 > 63 then (if x2 = 2 then (wardenref03_Shift.j1 k x1 x2 x8 63 x364000 x364001 x366000 x366001) else (wardenref03_Shift.j1 k x1 x2 x8 (-1) x364000 x364001 x366000 x366001)) else (if x2 = 0 then (wardenref03_Shift.j1 k x1 x2 x8 (wrap64 (x8 - (wrap64 (x1)))) x364000 x364001 x366000 x366001) else (if x2 = 2 then (wardenref03_Shift.j1 k x1 x2 x8 (mn (wrap64 (x8 + (wrap64 (x1)))) 63) x364000 x364001 x366000 x366001) else (wardenref03_Shift.j1 k x1 x2 x8 (wrap64 (x8 + (wrap64 (x1)))) x364000 x364001 x366000 x366001)))) else (some (x366000, x366001))
def wardenref03_Shift.j1 : Nat → Int → Int → Int → Int → Int → Int → Int → Int → Option (Int × Int)
 | 0, _, _, _, _, _, _, _, _ => none
 | k + 1, x1, x2, x8, x9, x364000, x364001, x366000, x366001 => if x9 ≥ 0 then (wardenref03_Shift.j2 k x1 x2 x8 x9 (decide (x9 < 64)) x364000 x364001 x366000 x366001) else (wardenref03_Shift.j2 k x1 x2 x8 x9 false x364000 x364001 x366000 x366001)
def wardenref03_Shift.j2 : Nat → Int → Int → Int → Int → Bool → Int → Int → Int → Int → Option (Int × Int)
 | 0, _, _, _, _, _, _, _, _, _ => none
 | k + 1, x1, x2, x8, x9, x39, x364000, x364001, x366000, x366001 => if x39 = true then ((wardenref03_bit.f x364000 x364001 x9).bind fun t366 => ((wardenref03_put.f x366000 x366001 x8 t366).bind fun bt367 => (wardenref03_Shift.l0 k x1 x2 (wrap64 (x8 + 1)) x364000 x364001 bt367.1 bt367.2))) else (wardenref03_Shift.l0 k x1 x2 (wrap64 (x8 + 1)) x364000 x364001 x366000 x366001)
end
def wardenref03_Shift.f (k : Nat) (a0_0 : Int) (a0_1 : Int) (a1 : Int) (a2 : Int) : Option (Int × Int) := wardenref03_Shift.l0 k a1 a2 0 a0_0 a0_1 0 0
theorem wardenref03_Shift.mono_l : ∀ k, (∀ y0 y1 y2 y3 y4 y5 y6, LeO (wardenref03_Shift.l0 k y0 y1 y2 y3 y4 y5 y6) (wardenref03_Shift.l0 (k + 1) y0 y1 y2 y3 y4 y5 y6)) ∧ (∀ y0 y1 y2 y3 y4 y5 y6 y7, LeO (wardenref03_Shift.j1 k y0 y1 y2 y3 y4 y5 y6 y7) (wardenref03_Shift.j1 (k + 1) y0 y1 y2 y3 y4 y5 y6 y7)) ∧ (∀ y0 y1 y2 y3 y4 y5 y6 y7 y8, LeO (wardenref03_Shift.j2 k y0 y1 y2 y3 y4 y5 y6 y7 y8) (wardenref03_Shift.j2 (k + 1) y0 y1 y2 y3 y4 y5 y6 y7 y8))
 | 0 => ⟨fun _ _ _ _ _ _ _ r h => by simp [wardenref03_Shift.l0] at h, fun _ _ _ _ _ _ _ _ r h => by simp [wardenref03_Shift.j1] at h, fun _ _ _ _ _ _ _ _ _ r h => by simp [wardenref03_Shift.j2] at h⟩
 | k + 1 => by
  obtain ⟨ih0, ih1, ih2⟩ := wardenref03_Shift.mono_l k
  refine ⟨?_, ?_, ?_⟩
  ·intro y0 y1 y2 y3 y4 y5 y6
   unfold wardenref03_Shift.l0
   repeat' first
   | (with_reducible exact ih0 _ _ _ _ _ _ _)
   | (with_reducible exact ih1 _ _ _ _ _ _ _ _)
   | (with_reducible exact ih2 _ _ _ _ _ _ _ _ _)
   | (with_reducible exact LeO.refl _)
   | (with_reducible exact LeO.none _)
   | (with_reducible refine LeO.ite ?_ ?_)
   | (with_reducible refine LeO.bind ?_ (fun _ => ?_))
   | exact ih0 _ _ _ _ _ _ _
   | exact ih1 _ _ _ _ _ _ _ _
   | exact ih2 _ _ _ _ _ _ _ _ _
   | exact LeO.none _
   | refine LeO.ite ?_ ?_
   | refine LeO.bind ?_ (fun _ => ?_)
  ·intro y0 y1 y2 y3 y4 y5 y6 y7
   unfold wardenref03_Shift.j1
   repeat' first
   | (with_reducible exact ih0 _ _ _ _ _ _ _)
   | (with_reducible exact ih1 _ _ _ _ _ _ _ _)
   | (with_reducible exact ih2 _ _ _ _ _ _ _ _ _)
   | (with_reducible exact LeO.refl _)
   | (with_reducible exact LeO.none _)
   | (with_reducible refine LeO.ite ?_ ?_)
   | (with_reducible refine LeO.bind ?_ (fun _ => ?_))
   | exact ih0 _ _ _ _ _ _ _
   | exact ih1 _ _ _ _ _ _ _ _
   | exact ih2 _ _ _ _ _ _ _ _ _
   | exact LeO.none _
   | refine LeO.ite ?_ ?_
   | refine LeO.bind ?_ (fun _ => ?_)
  ·intro y0 y1 y2 y3 y4 y5 y6 y7 y8
   unfold wardenref03_Shift.j2
   repeat' first
   | (with_reducible exact ih0 _ _ _ _ _ _ _)
   | (with_reducible exact ih1 _ _ _ _ _ _ _ _)
   | (with_reducible exact ih2 _ _ _ _ _ _ _ _ _)
   | (with_reducible exact LeO.refl _)
   | (with_reducible exact LeO.none _)
   | (with_reducible refine LeO.ite ?_ ?_)
   | (with_reducible refine LeO.bind ?_ (fun _ => ?_))
   | exact ih0 _ _ _ _ _ _ _
   | exact ih1 _ _ _ _ _ _ _ _
   | exact ih2 _ _ _ _ _ _ _ _ _
   | exact LeO.none _
   | refine LeO.ite ?_ ?_
   | refine LeO.bind ?_ (fun _ => ?_)
theorem wardenref03_Shift.mono : ∀ a0 a1 a2 a3 k, LeO (wardenref03_Shift.f k a0 a1 a2 a3) (wardenref03_Shift.f (k + 1) a0 a1 a2 a3) := by
 intro a0 a1 a2 a3 k
 obtain ⟨ih0, ih1, ih2⟩ := wardenref03_Shift.mono_l k
 unfold wardenref03_Shift.f
 repeat' first
   | (with_reducible exact ih0 _ _ _ _ _ _ _)
   | (with_reducible exact ih1 _ _ _ _ _ _ _ _)
   | (with_reducible exact ih2 _ _ _ _ _ _ _ _ _)
   | (with_reducible exact LeO.refl _)
   | (with_reducible exact LeO.none _)
   | (with_reducible refine LeO.ite ?_ ?_)
   | (with_reducible refine LeO.bind ?_ (fun _ => ?_))
   | exact ih0 _ _ _ _ _ _ _
   | exact ih1 _ _ _ _ _ _ _ _
   | exact ih2 _ _ _ _ _ _ _ _ _
   | exact LeO.none _
   | refine LeO.ite ?_ ?_
   | refine LeO.bind ?_ (fun _ => ?_)
set_option maxHeartbeats 8000000 in
set_option maxRecDepth 100000 in
theorem wardenref03_Shift.calls (k : Nat) (a0_0 : Int) (a0_1 : Int) (a1 : Int) (a2 : Int) (r1 : Int) (r2 : Int) (w : World) (h : wardenref03_Shift.f k a0_0 a0_1 a1 a2 = some (r1, r2)) :
  Calls Try.prog 37 #[.agg #[.int .u64 a0_0, .int .u64 a0_1], .int .u64 a1, .int .i64 a2] w fun e w' => e = .returned (.agg #[.int .u64 r1, .int .u64 r2]) ∧ Below w.heap.size w w' := by
 have hu24 := Try.underlying24
 have HB := am (Below.refl w.heap.size w)
 have H : (wardenref03_Shift.l0 k a1 a2 0 a0_0 a0_1 0 0) = some (r1, r2) := h
 clear h
 have H' := am H
 clear H
 go_enter Try.func37, Try.ntmps37
 go_wp2_with (first | ((with_reducible refine gate_dst (N := 3) rfl ?_); refine box_event ?hg (N := 3) ?hd (cs := #[.int .u64 a0_0, .int .u64 a0_1]) (t := 24) ?hr ?_; (case hd => rfl); (case hg => rfl); (case hr => first | (go_simp; done) | (go_simp; rfl)); intro gb363 hg w4 hbox hb; have n0_ := am (below_step HB.out hb); have n1_ := am (hbox); have n2_ := am ((by rw [hg]; exact (below_size HB.out) : w.heap.size ≤ gb363)); have n3_ := am ((by rw [hg]; exact (below_size HB.out) : w.heap.size ≤ gb363)); clear HB; have HB := n0_; have BK363 := n1_; have GW363 := n2_; have GE363 := n3_; clear n0_ n1_ n2_ n3_; clear hb hbox hg) | ((with_reducible refine gate_dst (N := 6) rfl ?_); refine box_event ?hg (N := 6) ?hd (cs := #[.int .u64 0, .int .u64 0]) (t := 24) ?hr ?_; (case hd => rfl); (case hg => rfl); (case hr => first | (go_simp; done) | (go_simp; rfl)); intro gb364 hg w5 hbox hb; have n0_ := am (blk_below BK363.out hb); have n1_ := am (below_step (by repeat (first | exact HB.out | refine below_set ?_ GE363.out)) hb); have n2_ := am (hbox); have n3_ := am ((by rw [hg]; exact (below_size (by repeat (first | exact HB.out | refine below_set ?_ GE363.out))) : w.heap.size ≤ gb364)); have n4_ := am ((by rw [hg]; exact (below_size (by repeat (first | exact HB.out | refine below_set ?_ GE363.out))) : w.heap.size ≤ gb364)); have n5_ := am ((by rw [hg]; exact Nat.ne_of_lt (blk_lt BK363.out) : gb363 ≠ gb364)); have n6_ := am ((by rw [hg]; exact Nat.ne_of_gt (blk_lt BK363.out) : gb364 ≠ gb363)); clear BK363; clear HB; have BK363 := n0_; have HB := n1_; have BK364 := n2_; have GW364 := n3_; have GE364 := n4_; have NB363_364 := n5_; have NB364_363 := n6_; clear n0_ n1_ n2_ n3_ n4_ n5_ n6_; clear hb hbox hg) | ((with_reducible refine gate_dst (N := 7) rfl ?_); refine box_event ?hg (N := 7) ?hd (cs := #[.int .u64 0, .int .u64 0]) (t := 24) ?hr ?_; (case hd => rfl); (case hg => rfl); (case hr => first | (go_simp; done) | (go_simp; rfl)); intro gb365 hg w6 hbox hb; have n0_ := am (blk_below BK363.out hb); have n1_ := am (blk_below BK364.out hb); have n2_ := am (below_step (by repeat (first | exact HB.out | refine below_set ?_ GE363.out | refine below_set ?_ GE364.out)) hb); have n3_ := am (hbox); have n4_ := am ((by rw [hg]; exact (below_size (by repeat (first | exact HB.out | refine below_set ?_ GE363.out | refine below_set ?_ GE364.out))) : w.heap.size ≤ gb365)); have n5_ := am ((by rw [hg]; exact (below_size (by repeat (first | exact HB.out | refine below_set ?_ GE363.out | refine below_set ?_ GE364.out))) : w.heap.size ≤ gb365)); have n6_ := am ((by rw [hg]; exact Nat.ne_of_lt (blk_lt BK363.out) : gb363 ≠ gb365)); have n7_ := am ((by rw [hg]; exact Nat.ne_of_gt (blk_lt BK363.out) : gb365 ≠ gb363)); have n8_ := am ((by rw [hg]; exact Nat.ne_of_lt (blk_lt BK364.out) : gb364 ≠ gb365)); have n9_ := am ((by rw [hg]; exact Nat.ne_of_gt (blk_lt BK364.out) : gb365 ≠ gb364)); clear BK363; clear BK364; clear HB; have BK363 := n0_; have BK364 := n1_; have HB := n2_; have BK365 := n3_; have GW365 := n4_; have GE365 := n5_; have NB363_365 := n6_; have NB365_363 := n7_; have NB364_365 := n8_; have NB365_364 := n9_; clear n0_ n1_ n2_ n3_ n4_ n5_ n6_ n7_ n8_ n9_; clear hb hbox hg; have hnb7 := NB365_363.out; have hnc7 := NB363_365.out; have hnb8 := NB365_364.out; have hnc8 := NB364_365.out; have hcz9_0 : w6.cell? ⟨gb365, 0, none⟩ = some (.int .u64 0) := (blk_cell BK365.out 0).trans rfl; have hcz9_1 : w6.cell? ⟨gb365, 1, none⟩ = some (.int .u64 0) := (blk_cell BK365.out 1).trans rfl; have hfz9_0 := blk_frozen BK365.out 0; have hfz9_1 := blk_frozen BK365.out 1))
 go_loopg [8] k (fun kq v8 w' => ∃ (x8_1 : Int) (x366000_1 : Int) (x366001_1 : Int), v8 = .int .i64 x8_1 ∧ Aside0 (wardenref03_Shift.l0 kq a1 a2 x8_1 a0_0 a0_1 x366000_1 x366001_1 = some (r1, r2)) ∧ Aside0 (kq ≤ k) ∧ Aside0 (w'.heap[gb363]? = some (.cells #[.int .u64 a0_0, .int .u64 a0_1] 24 (0, 0))) ∧ Aside0 (w'.heap[gb364]? = some (.cells #[.int .u64 0, .int .u64 0] 24 (0, 0))) ∧ Aside0 (w'.heap[gb365]? = some (.cells #[.int .u64 x366000_1, .int .u64 x366001_1] 24 (0, 0))) ∧ Aside0 (Below w.heap.size w w'))
 case atStart => exact ⟨(0), (0), (0), (by first | rfl | (simp; done) | (simp [*]; done)), H', ⟨Nat.le_refl _⟩, ⟨by (with_reducible repeat (first | refine blk_drewN ?_ _ | refine blk_drew ?_ | refine blk_alloc ?_ _)); refine blk_far ?_ NB363_365.out _; (with_reducible repeat (first | refine blk_drewN ?_ _ | refine blk_drew ?_ | refine blk_alloc ?_ _)); refine blk_far ?_ NB363_365.out _; (with_reducible repeat (first | refine blk_drewN ?_ _ | refine blk_drew ?_ | refine blk_alloc ?_ _)); exact BK363.out⟩, ⟨by (with_reducible repeat (first | refine blk_drewN ?_ _ | refine blk_drew ?_ | refine blk_alloc ?_ _)); refine blk_far ?_ NB364_365.out _; (with_reducible repeat (first | refine blk_drewN ?_ _ | refine blk_drew ?_ | refine blk_alloc ?_ _)); refine blk_far ?_ NB364_365.out _; (with_reducible repeat (first | refine blk_drewN ?_ _ | refine blk_drew ?_ | refine blk_alloc ?_ _)); exact BK364.out⟩, ⟨by (with_reducible repeat (first | refine blk_drewN ?_ _ | refine blk_drew ?_ | refine blk_alloc ?_ _)); refine blk_put (cs := #[.int .u64 0, .int .u64 0]) ?_ 1 _ rfl; (with_reducible repeat (first | refine blk_drewN ?_ _ | refine blk_drew ?_ | refine blk_alloc ?_ _)); refine blk_put (cs := #[.int .u64 0, .int .u64 0]) ?_ 0 _ rfl; (with_reducible repeat (first | refine blk_drewN ?_ _ | refine blk_drew ?_ | refine blk_alloc ?_ _)); exact BK365.out⟩, ⟨by repeat (first | (with_reducible first | exact HB.out | apply below_alloc | apply pw_below_drewN | apply below_drew1 | refine below_set ?_ GE363.out | refine below_set ?_ GE364.out | refine below_set ?_ GE365.out) | exact HB.out)⟩⟩
 case round =>
  clear H'
  try clear p2
  try clear c3
  try clear c7
  try clear c8
  try clear hcz9_0
  try clear hcz9_1
  try clear hfz9_0
  try clear hfz9_1
  obtain ⟨x8_1, x366000_1, x366001_1, rfl, HA, HK1, BK363, BK364, BK365, HB⟩ := hrel
  cases gk with
  | zero => exact absurd HA.out (by simp [wardenref03_Shift.l0])
  | succ k1 =>
   have H := HA.out
   clear HA
   simp only [wardenref03_Shift.l0] at H
   by_cases c10 : x8_1 < 64
   ·rw [if_pos c10] at H
    have c10b0 : decide (x8_1 < 64) = true := decide_eq_true c10
    clear c10
    have HC11 := am H
    clear H
    go_upto_if 17 with (fail)
    go_cut [9] (fun v9 wc => ∃ (kq : Nat) (x9_10 : Int), v9 = .int .i64 x9_10 ∧ Aside0 (wardenref03_Shift.j1 kq a1 a2 x8_1 x9_10 a0_0 a0_1 x366000_1 x366001_1 = some (r1, r2)) ∧ Aside0 (kq ≤ k1) ∧ Aside0 (wc.heap[gb363]? = some (.cells #[.int .u64 a0_0, .int .u64 a0_1] 24 (0, 0))) ∧ Aside0 (wc.heap[gb364]? = some (.cells #[.int .u64 0, .int .u64 0] 24 (0, 0))) ∧ Aside0 (wc.heap[gb365]? = some (.cells #[.int .u64 x366000_1, .int .u64 x366001_1] 24 (0, 0))) ∧ Aside0 (Below w.heap.size w wc))
    case first =>
     have H := HC11.out
     clear HC11
     by_cases c12 : a1 > 63
     ·rw [if_pos c12] at H
      have c12b0 : decide (63 < a1) = true := decide_eq_true c12
      clear c12
      (first | rw [c12b0] | (simp only [i64_w, i32_w]; rw [c12b0]) | skip)
      by_cases c13 : a2 = 2
      ·rw [if_pos c13] at H
       have c13b0 : (a2 == 2) = true := beq_iff_eq.mpr c13
       have c13b1 : (a2 != 2) = false := bne_eq_false_iff_eq.mpr c13
       clear c13
       have H' := am H
       clear H
       go_wp2
       go_meet
       case rel => exact ⟨_, (63), (by first | rfl | (simp; done) | (simp [*]; done)), H', ⟨by have := HK1.out; first | omega | exact Nat.le_refl _⟩, ⟨by (with_reducible repeat (first | refine blk_drewN ?_ _ | refine blk_drew ?_ | refine blk_alloc ?_ _)); exact BK363.out⟩, ⟨by (with_reducible repeat (first | refine blk_drewN ?_ _ | refine blk_drew ?_ | refine blk_alloc ?_ _)); exact BK364.out⟩, ⟨by (with_reducible repeat (first | refine blk_drewN ?_ _ | refine blk_drew ?_ | refine blk_alloc ?_ _)); exact BK365.out⟩, ⟨by repeat (first | (with_reducible first | exact HB.out | apply below_alloc | apply pw_below_drewN | apply below_drew1 | refine below_set ?_ GE363.out | refine below_set ?_ GE364.out | refine below_set ?_ GE365.out) | exact HB.out)⟩⟩
      ·rw [if_neg c13] at H
       have c13b0 : (a2 == 2) = false := beq_eq_false_iff_ne.mpr c13
       have c13b1 : (a2 != 2) = true := bne_iff_ne.mpr c13
       have H' := am H
       clear H
       go_wp2
       go_meet
       case rel => exact ⟨_, ((-1)), (by first | rfl | (simp; done) | (simp [*]; done)), H', ⟨by have := HK1.out; first | omega | exact Nat.le_refl _⟩, ⟨by (with_reducible repeat (first | refine blk_drewN ?_ _ | refine blk_drew ?_ | refine blk_alloc ?_ _)); exact BK363.out⟩, ⟨by (with_reducible repeat (first | refine blk_drewN ?_ _ | refine blk_drew ?_ | refine blk_alloc ?_ _)); exact BK364.out⟩, ⟨by (with_reducible repeat (first | refine blk_drewN ?_ _ | refine blk_drew ?_ | refine blk_alloc ?_ _)); exact BK365.out⟩, ⟨by repeat (first | (with_reducible first | exact HB.out | apply below_alloc | apply pw_below_drewN | apply below_drew1 | refine below_set ?_ GE363.out | refine below_set ?_ GE364.out | refine below_set ?_ GE365.out) | exact HB.out)⟩⟩
     ·rw [if_neg c12] at H
      have c12b0 : decide (63 < a1) = false := decide_eq_false c12
      clear c12
      (first | rw [c12b0] | (simp only [i64_w, i32_w]; rw [c12b0]) | skip)
      by_cases c14 : a2 = 0
      ·rw [if_pos c14] at H
       have c14b0 : (a2 == 0) = true := beq_iff_eq.mpr c14
       have c14b1 : (a2 != 0) = false := bne_eq_false_iff_eq.mpr c14
       clear c14
       have H' := am H
       clear H
       go_wp2
       go_meet
       case rel => exact ⟨_, (wrap64 (x8_1 - (wrap64 (a1)))), (by first | rfl | (simp; done) | (simp [*]; done)), H', ⟨by have := HK1.out; first | omega | exact Nat.le_refl _⟩, ⟨by (with_reducible repeat (first | refine blk_drewN ?_ _ | refine blk_drew ?_ | refine blk_alloc ?_ _)); exact BK363.out⟩, ⟨by (with_reducible repeat (first | refine blk_drewN ?_ _ | refine blk_drew ?_ | refine blk_alloc ?_ _)); exact BK364.out⟩, ⟨by (with_reducible repeat (first | refine blk_drewN ?_ _ | refine blk_drew ?_ | refine blk_alloc ?_ _)); exact BK365.out⟩, ⟨by repeat (first | (with_reducible first | exact HB.out | apply below_alloc | apply pw_below_drewN | apply below_drew1 | refine below_set ?_ GE363.out | refine below_set ?_ GE364.out | refine below_set ?_ GE365.out) | exact HB.out)⟩⟩
      ·rw [if_neg c14] at H
       have c14b0 : (a2 == 0) = false := beq_eq_false_iff_ne.mpr c14
       have c14b1 : (a2 != 0) = true := bne_iff_ne.mpr c14
       by_cases c15 : a2 = 2
       ·rw [if_pos c15] at H
        have c15b0 : (a2 == 2) = true := beq_iff_eq.mpr c15
        have c15b1 : (a2 != 2) = false := bne_eq_false_iff_eq.mpr c15
        clear c15
        obtain ⟨ji16, hji16⟩ : ∃ j_ : Int, (mn (wrap64 (x8_1 + (wrap64 (a1)))) 63) = j_ := ⟨_, rfl⟩
        replace H : (wardenref03_Shift.j1 k1 a1 a2 x8_1 ji16 a0_0 a0_1 x366000_1 x366001_1) = some (r1, r2) := by first | (rw [hji16] at H; exact H) | (simp only [hji16] at H ⊢; exact H)
        have hji16_ : (if 63 < (wrap64 (x8_1 + (wrap64 (a1)))) then 63 else (wrap64 (x8_1 + (wrap64 (a1))))) = ji16 := hji16
        have H' := am H
        clear H
        go_wp2
        go_meet
        case rel => exact ⟨_, (ji16), (by first | rfl | (simp; done) | (simp only [← hji16] <;> (first | rfl | simp)) | (simp [*]; done)), H', ⟨by have := HK1.out; first | omega | exact Nat.le_refl _⟩, ⟨by (with_reducible repeat (first | refine blk_drewN ?_ _ | refine blk_drew ?_ | refine blk_alloc ?_ _)); exact BK363.out⟩, ⟨by (with_reducible repeat (first | refine blk_drewN ?_ _ | refine blk_drew ?_ | refine blk_alloc ?_ _)); exact BK364.out⟩, ⟨by (with_reducible repeat (first | refine blk_drewN ?_ _ | refine blk_drew ?_ | refine blk_alloc ?_ _)); exact BK365.out⟩, ⟨by repeat (first | (with_reducible first | exact HB.out | apply below_alloc | apply pw_below_drewN | apply below_drew1 | refine below_set ?_ GE363.out | refine below_set ?_ GE364.out | refine below_set ?_ GE365.out) | exact HB.out)⟩⟩
       ·rw [if_neg c15] at H
        have c15b0 : (a2 == 2) = false := beq_eq_false_iff_ne.mpr c15
        have c15b1 : (a2 != 2) = true := bne_iff_ne.mpr c15
        have H' := am H
        clear H
        go_wp2
        go_meet
        case rel => exact ⟨_, (wrap64 (x8_1 + (wrap64 (a1)))), (by first | rfl | (simp; done) | (simp [*]; done)), H', ⟨by have := HK1.out; first | omega | exact Nat.le_refl _⟩, ⟨by (with_reducible repeat (first | refine blk_drewN ?_ _ | refine blk_drew ?_ | refine blk_alloc ?_ _)); exact BK363.out⟩, ⟨by (with_reducible repeat (first | refine blk_drewN ?_ _ | refine blk_drew ?_ | refine blk_alloc ?_ _)); exact BK364.out⟩, ⟨by (with_reducible repeat (first | refine blk_drewN ?_ _ | refine blk_drew ?_ | refine blk_alloc ?_ _)); exact BK365.out⟩, ⟨by repeat (first | (with_reducible first | exact HB.out | apply below_alloc | apply pw_below_drewN | apply below_drew1 | refine below_set ?_ GE363.out | refine below_set ?_ GE364.out | refine below_set ?_ GE365.out) | exact HB.out)⟩⟩
    case rest =>
     clear HC11
     try clear c1
     try clear p2
     try clear c3
     try clear p6
     try clear c7
     try clear c8
     try clear c10
     try clear c10b0
     try clear c12
     try clear c12b0
     try clear c13
     try clear c13b0
     try clear c13b1
     try clear c14
     try clear c14b0
     try clear c14b1
     try clear c15
     try clear c15b0
     try clear c15b1
     try clear hcz9_0
     try clear hcz9_1
     try clear hfz9_0
     try clear hfz9_1
     try clear p2
     obtain ⟨kq, x9_10, rfl, HA, HJ10, BK363, BK364, BK365, HB⟩ := hcut
     cases kq with
     | zero => exact absurd HA.out (by simp [wardenref03_Shift.j1])
     | succ kj10 =>
      have H := HA.out
      clear HA
      simp only [wardenref03_Shift.j1] at H
      have HC17 := am H
      clear H
      go_upto_region 15 with (fail)
      go_cut [39] (fun v39 wc => ∃ (kq : Nat) (x39_16 : Bool), v39 = .bool x39_16 ∧ Aside0 (wardenref03_Shift.j2 kq a1 a2 x8_1 x9_10 x39_16 a0_0 a0_1 x366000_1 x366001_1 = some (r1, r2)) ∧ Aside0 (kq ≤ kj10) ∧ Aside0 (wc.heap[gb363]? = some (.cells #[.int .u64 a0_0, .int .u64 a0_1] 24 (0, 0))) ∧ Aside0 (wc.heap[gb364]? = some (.cells #[.int .u64 0, .int .u64 0] 24 (0, 0))) ∧ Aside0 (wc.heap[gb365]? = some (.cells #[.int .u64 x366000_1, .int .u64 x366001_1] 24 (0, 0))) ∧ Aside0 (Below w.heap.size w wc))
      case first =>
       have H := HC17.out
       clear HC17
       by_cases c18 : x9_10 ≥ 0
       ·rw [if_pos c18] at H
        have c18b0 : decide (0 ≤ x9_10) = true := decide_eq_true c18
        clear c18
        (first | rw [c18b0] | (simp only [i64_w, i32_w]; rw [c18b0]) | skip)
        have H' := am H
        clear H
        go_wp2
        go_meet
        case rel => exact ⟨_, (decide (x9_10 < 64)), (by first | rfl | (simp; done) | (simp [*]; done)), H', ⟨by have := HK1.out; have := HJ10.out; first | omega | exact Nat.le_refl _⟩, ⟨by (with_reducible repeat (first | refine blk_drewN ?_ _ | refine blk_drew ?_ | refine blk_alloc ?_ _)); exact BK363.out⟩, ⟨by (with_reducible repeat (first | refine blk_drewN ?_ _ | refine blk_drew ?_ | refine blk_alloc ?_ _)); exact BK364.out⟩, ⟨by (with_reducible repeat (first | refine blk_drewN ?_ _ | refine blk_drew ?_ | refine blk_alloc ?_ _)); exact BK365.out⟩, ⟨by repeat (first | (with_reducible first | exact HB.out | apply below_alloc | apply pw_below_drewN | apply below_drew1 | refine below_set ?_ GE363.out | refine below_set ?_ GE364.out | refine below_set ?_ GE365.out) | exact HB.out)⟩⟩
       ·rw [if_neg c18] at H
        have c18b0 : decide (0 ≤ x9_10) = false := decide_eq_false c18
        clear c18
        (first | rw [c18b0] | (simp only [i64_w, i32_w]; rw [c18b0]) | skip)
        have H' := am H
        clear H
        go_wp2
        go_meet
        case rel => exact ⟨_, (false), (by first | rfl | (simp; done) | (simp [*]; done)), H', ⟨by have := HK1.out; have := HJ10.out; first | omega | exact Nat.le_refl _⟩, ⟨by (with_reducible repeat (first | refine blk_drewN ?_ _ | refine blk_drew ?_ | refine blk_alloc ?_ _)); exact BK363.out⟩, ⟨by (with_reducible repeat (first | refine blk_drewN ?_ _ | refine blk_drew ?_ | refine blk_alloc ?_ _)); exact BK364.out⟩, ⟨by (with_reducible repeat (first | refine blk_drewN ?_ _ | refine blk_drew ?_ | refine blk_alloc ?_ _)); exact BK365.out⟩, ⟨by repeat (first | (with_reducible first | exact HB.out | apply below_alloc | apply pw_below_drewN | apply below_drew1 | refine below_set ?_ GE363.out | refine below_set ?_ GE364.out | refine below_set ?_ GE365.out) | exact HB.out)⟩⟩
      case rest =>
       clear HC17
       try clear c1
       try clear p2
       try clear c3
       try clear p6
       try clear c7
       try clear c8
       try clear c10
       try clear c10b0
       try clear c12
       try clear c12b0
       try clear c13
       try clear c13b0
       try clear c13b1
       try clear c14
       try clear c14b0
       try clear c14b1
       try clear c15
       try clear c15b0
       try clear c15b1
       try clear c18
       try clear c18b0
       try clear hcz9_0
       try clear hcz9_1
       try clear hfz9_0
       try clear hfz9_1
       try clear p2
       try clear p6
       obtain ⟨kq, x39_16, rfl, HA, HJ16, BK363, BK364, BK365, HB⟩ := hcut
       cases kq with
       | zero => exact absurd HA.out (by simp [wardenref03_Shift.j2])
       | succ kj16 =>
        have H := HA.out
        clear HA
        simp only [wardenref03_Shift.j2] at H
        by_cases c19 : x39_16 = true
        ·subst c19
         have H1 : ((wardenref03_bit.f a0_0 a0_1 x9_10).bind fun t366 => ((wardenref03_put.f x366000_1 x366001_1 x8_1 t366).bind fun bt367 => (wardenref03_Shift.l0 kj16 a1 a2 (wrap64 (x8_1 + 1)) a0_0 a0_1 bt367.1 bt367.2))) = some (r1, r2) := by rw [if_pos rfl] at H; exact H
         clear H
         have H := H1
         clear H1
         replace H := Option.bind_eq_some_iff.mp H
         obtain ⟨t366, A200, H⟩ := H
         replace H : ((wardenref03_put.f x366000_1 x366001_1 x8_1 t366).bind fun bt367 => (wardenref03_Shift.l0 kj16 a1 a2 (wrap64 (x8_1 + 1)) a0_0 a0_1 bt367.1 bt367.2)) = some (r1, r2) := H
         have A20 := am A200
         clear A200
         replace H := Option.bind_eq_some_iff.mp H
         obtain ⟨⟨t367, t368⟩, A210, H⟩ := H
         replace H : (wardenref03_Shift.l0 kj16 a1 a2 (wrap64 (x8_1 + 1)) a0_0 a0_1 t367 t368) = some (r1, r2) := H
         have A21 := am A210
         clear A210
         have H' := am H
         clear H
         try go_wp2
         have n0_ := am (blk_drew BK363.out)
         have n1_ := am (blk_drew BK364.out)
         have n2_ := am (blk_drew BK365.out)
         have n3_ := am (below_drew1 HB.out)
         clear BK363
         clear BK364
         clear BK365
         clear HB
         have BK363 := n0_
         have BK364 := n1_
         have BK365 := n2_
         have HB := n3_
         clear n0_ n1_ n2_ n3_
         refine start_ (n := 7) (S := fun w' => w'.cell? ⟨gb365, 0, none⟩ = some (.int .u64 x366000_1) ∧ w'.cell? ⟨gb365, 1, none⟩ = some (.int .u64 x366001_1) ∧ w'.cell? ⟨gb363, 0, none⟩ = some (.int .u64 a0_0) ∧ w'.cell? ⟨gb363, 1, none⟩ = some (.int .u64 a0_1)) (ds := [6]) (ar 7 0) (by kernel_rfl) rfl rfl ⟨(blk_cell BK365.out 0).trans rfl, (blk_cell BK365.out 1).trans rfl, (blk_cell BK363.out 0).trans rfl, (blk_cell BK363.out 1).trans rfl⟩ (fun hHeld => ?_)
         generalize wc.drew = w22 at BK363 BK364 BK365 HB hHeld ⊢
         refine pure_ (i := 1) (N := some 41) (v := ?_) (a' := ?_) (ar 7 2) rfl rfl (by kernel_rfl) (fun _ _ _ h => h) (Or.inl ⟨by rfl, ?_⟩) ?_ ?_
         rotate_left
         ·intro w'
          go_simp
          with_reducible rfl
         rotate_left
         ·simp only [Act.put, q1, q2, q3, i64_w, i32_w]
          rfl
         refine pure_ (i := 3) (N := some 43) (v := ?_) (a' := ?_) (ar 7 10) rfl rfl (by kernel_rfl) (fun _ _ _ h => h) (Or.inl ⟨by rfl, ?_⟩) ?_ ?_
         rotate_left
         ·intro w'
          go_simp
          with_reducible rfl
         rotate_left
         ·simp only [Act.put, q1, q2, q3, i64_w, i32_w]
          rfl
         refine take_ (i := 0) (N := some 40) (v := ?_) (a' := ?_) (ar 7 11) rfl rfl (by kernel_rfl) (fun _ _ _ h => h) (Or.inl ⟨by rfl, ?_⟩) hHeld ?_ ?_
         rotate_left
         ·rintro w' ⟨s0, s1, s2, s3⟩
          go_simp
          with_reducible rfl
         rotate_left
         ·simp only [Act.put, q1, q2, q3, i64_w, i32_w]
          rfl
         refine take_ (i := 2) (N := some 42) (v := ?_) (a' := ?_) (ar 7 15) rfl rfl (by kernel_rfl) (fun _ _ _ h => h) (Or.inl ⟨by rfl, ?_⟩) hHeld ?_ ?_
         rotate_left
         ·rintro w' ⟨s0, s1, s2, s3⟩
          go_simp
          with_reducible rfl
         rotate_left
         ·simp only [Act.put, q1, q2, q3, i64_w, i32_w]
          rfl
         refine one_ (i := 4) (N := some 44) (ar 7 31) rfl rfl (by kernel_rfl) (by decide) (fun K hK => ?_)
         refine goes_ Try.func40 (by kernel_rfl) rfl #[.agg #[.int .u64 a0_0, .int .u64 a0_1], .int .i64 x9_10] (by rfl) rfl rfl (by (try simp only [List.map_toArray, List.map_cons, List.map_nil]); first | done | rfl) ?_
         with_reducible refine (wardenref03_bit.calls a0_0 a0_1 x9_10 t366 _ A20.out).mono ?_
         rintro e w23 ⟨rfl, hb⟩
         refine ⟨_, rfl, ?_⟩
         have n0_ := am (blk_below BK363.out hb)
         have n1_ := am (blk_below BK364.out hb)
         have n2_ := am (blk_below BK365.out hb)
         have n3_ := am (below_step (by repeat (first | exact HB.out | refine below_set ?_ GE363.out | refine below_set ?_ GE364.out | refine below_set ?_ GE365.out)) hb)
         clear BK363
         clear BK364
         clear BK365
         clear HB
         have BK363 := n0_
         have BK364 := n1_
         have BK365 := n2_
         have HB := n3_
         clear n0_ n1_ n2_ n3_
         (try clear hb)
         (try clear hb2)
         (try clear hk)
         (try clear hi)
         refine hK.out _ _ ⟨(blk_cell BK365.out 0).trans rfl, (blk_cell BK365.out 1).trans rfl, (blk_cell BK363.out 0).trans rfl, (blk_cell BK363.out 1).trans rfl⟩ (fun hHeld => ?_)
         clear hK K
         refine norm_ (a' := ?_) ?_ ?_
         rotate_left
         ·show Act.put _ (some 44) _ = _
          simp only [Act.put, q1, q2, q3, i64_w, i32_w]
          rfl
         refine one_ (i := 5) (N := some 45) (ar 7 63) rfl rfl (by kernel_rfl) (by decide) (fun K hK => ?_)
         refine goes_ Try.func41 (by kernel_rfl) rfl #[.agg #[.int .u64 x366000_1, .int .u64 x366001_1], .int .i64 x8_1, .int .i64 t366] (by rfl) rfl rfl (by (try simp only [List.map_toArray, List.map_cons, List.map_nil]); first | done | rfl) ?_
         with_reducible refine (wardenref03_put.calls x366000_1 x366001_1 x8_1 t366 t367 t368 _ A21.out).mono ?_
         rintro e w24 ⟨rfl, hb⟩
         refine ⟨_, rfl, ?_⟩
         have n0_ := am (blk_below BK363.out hb)
         have n1_ := am (blk_below BK364.out hb)
         have n2_ := am (blk_below BK365.out hb)
         have n3_ := am (below_step (by repeat (first | exact HB.out | refine below_set ?_ GE363.out | refine below_set ?_ GE364.out | refine below_set ?_ GE365.out)) hb)
         clear BK363
         clear BK364
         clear BK365
         clear HB
         have BK363 := n0_
         have BK364 := n1_
         have BK365 := n2_
         have HB := n3_
         clear n0_ n1_ n2_ n3_
         (try clear hb)
         (try clear hb2)
         (try clear hk)
         (try clear hi)
         refine hK.out _ _ ⟨(blk_cell BK365.out 0).trans rfl, (blk_cell BK365.out 1).trans rfl, (blk_cell BK363.out 0).trans rfl, (blk_cell BK363.out 1).trans rfl⟩ (fun hHeld => ?_)
         clear hK K
         refine norm_ (a' := ?_) ?_ ?_
         rotate_left
         ·show Act.put _ (some 45) _ = _
          simp only [Act.put, q1, q2, q3, i64_w, i32_w]
          rfl
         refine last_ (i := 6) (N := none) (ar 7 127) rfl rfl (by kernel_rfl) (by decide) (fun K hK => ?_)
         have hs25 : w24.cell? ⟨gb365, 0, none⟩ = some (.int .u64 x366000_1) := (blk_cell BK365.out 0).trans rfl
         have hfs25 := blk_frozen BK365.out 0
         have hns25_0 := NB363_365.out
         have hns25_1 := NB364_365.out
         have hms25_0 := NB365_363.out
         have hms25_1 := NB365_364.out
         have hs26 : w24.cell? ⟨gb365, 1, none⟩ = some (.int .u64 x366001_1) := (blk_cell BK365.out 1).trans rfl
         have hfs26 := blk_frozen BK365.out 1
         have hns26_0 := NB363_365.out
         have hns26_1 := NB364_365.out
         have hms26_0 := NB365_363.out
         have hms26_1 := NB365_364.out
         refine skip_ (w1 := ?_) (by rfl) rfl ?_ ?_
         rotate_left
         ·go_simp
          rfl
         refine hK.out _ _ ?_
         clear hK K
         refine done_ (by kernel_rfl) ?_
         try go_wp2
         go_roundg kj16
         case measure => have := HK1.out; have := HJ10.out; have := HJ16.out; omega
         case rel => exact ⟨(wrap64 (x8_1 + 1)), (t367), (t368), (by first | rfl | (simp; done) | (simp [*]; done)), H', ⟨by have := HK1.out; have := HJ10.out; have := HJ16.out; omega⟩, ⟨by (with_reducible repeat (first | refine blk_drewN ?_ _ | refine blk_drew ?_ | refine blk_alloc ?_ _)); refine blk_far ?_ NB363_365.out _; (with_reducible repeat (first | refine blk_drewN ?_ _ | refine blk_drew ?_ | refine blk_alloc ?_ _)); refine blk_far ?_ NB363_365.out _; (with_reducible repeat (first | refine blk_drewN ?_ _ | refine blk_drew ?_ | refine blk_alloc ?_ _)); exact BK363.out⟩, ⟨by (with_reducible repeat (first | refine blk_drewN ?_ _ | refine blk_drew ?_ | refine blk_alloc ?_ _)); refine blk_far ?_ NB364_365.out _; (with_reducible repeat (first | refine blk_drewN ?_ _ | refine blk_drew ?_ | refine blk_alloc ?_ _)); refine blk_far ?_ NB364_365.out _; (with_reducible repeat (first | refine blk_drewN ?_ _ | refine blk_drew ?_ | refine blk_alloc ?_ _)); exact BK364.out⟩, ⟨by (with_reducible repeat (first | refine blk_drewN ?_ _ | refine blk_drew ?_ | refine blk_alloc ?_ _)); refine blk_put (cs := #[.int .u64 t367, .int .u64 x366001_1]) ?_ 1 _ rfl; (with_reducible repeat (first | refine blk_drewN ?_ _ | refine blk_drew ?_ | refine blk_alloc ?_ _)); refine blk_put (cs := #[.int .u64 x366000_1, .int .u64 x366001_1]) ?_ 0 _ rfl; (with_reducible repeat (first | refine blk_drewN ?_ _ | refine blk_drew ?_ | refine blk_alloc ?_ _)); exact BK365.out⟩, ⟨by repeat (first | (with_reducible first | exact HB.out | apply below_alloc | apply pw_below_drewN | apply below_drew1 | refine below_set ?_ GE363.out | refine below_set ?_ GE364.out | refine below_set ?_ GE365.out) | exact HB.out)⟩⟩
        ·replace c19 := Bool.eq_false_iff.mpr c19
         subst c19
         have H1 : (wardenref03_Shift.l0 kj16 a1 a2 (wrap64 (x8_1 + 1)) a0_0 a0_1 x366000_1 x366001_1) = some (r1, r2) := by rw [if_neg (show ¬ (false = true) by decide)] at H; exact H
         clear H
         have H := H1
         clear H1
         have H' := am H
         clear H
         go_wp2
         go_roundg kj16
         case measure => have := HK1.out; have := HJ10.out; have := HJ16.out; omega
         case rel => exact ⟨(wrap64 (x8_1 + 1)), (x366000_1), (x366001_1), (by first | rfl | (simp; done) | (simp [*]; done)), H', ⟨by have := HK1.out; have := HJ10.out; have := HJ16.out; omega⟩, ⟨by (with_reducible repeat (first | refine blk_drewN ?_ _ | refine blk_drew ?_ | refine blk_alloc ?_ _)); exact BK363.out⟩, ⟨by (with_reducible repeat (first | refine blk_drewN ?_ _ | refine blk_drew ?_ | refine blk_alloc ?_ _)); exact BK364.out⟩, ⟨by (with_reducible repeat (first | refine blk_drewN ?_ _ | refine blk_drew ?_ | refine blk_alloc ?_ _)); exact BK365.out⟩, ⟨by repeat (first | (with_reducible first | exact HB.out | apply below_alloc | apply pw_below_drewN | apply below_drew1 | refine below_set ?_ GE363.out | refine below_set ?_ GE364.out | refine below_set ?_ GE365.out) | exact HB.out)⟩⟩
   ·rw [if_neg c10] at H
    have c10b0 : decide (x8_1 < 64) = false := decide_eq_false c10
    clear c10
    simp only [Option.some.injEq, Prod.mk.injEq] at H
    obtain ⟨rfl, rfl⟩ := H
    have hnb27 := NB365_363.out
    have hnc27 := NB363_365.out
    have hnb28 := NB365_364.out
    have hnc28 := NB364_365.out
    have hcz29_0 : wr.cell? ⟨gb365, 0, none⟩ = some (.int .u64 x366000_1) := (blk_cell BK365.out 0).trans rfl
    have hcz29_1 : wr.cell? ⟨gb365, 1, none⟩ = some (.int .u64 x366001_1) := (blk_cell BK365.out 1).trans rfl
    have hfz29_0 := blk_frozen BK365.out 0
    have hfz29_1 := blk_frozen BK365.out 1
    have hnb30 := NB364_363.out
    have hnc30 := NB363_364.out
    have hcz31_0 : wr.cell? ⟨gb364, 0, none⟩ = some (.int .u64 0) := (blk_cell BK364.out 0).trans rfl
    have hcz31_1 : wr.cell? ⟨gb364, 1, none⟩ = some (.int .u64 0) := (blk_cell BK364.out 1).trans rfl
    have hfz31_0 := blk_frozen BK364.out 0
    have hfz31_1 := blk_frozen BK364.out 1
    go_wp2
    refine bodyPost_ret (results_cell_row rfl _ _ gb364 24 #[.int .u64 x366000_1, .int .u64 x366001_1] (0, 0) _ rfl (by (with_reducible repeat (first | refine blk_drewN ?_ _ | refine blk_drew ?_ | refine blk_alloc ?_ _)); refine blk_put (cs := #[.int .u64 x366000_1, .int .u64 0]) ?_ 1 _ rfl; (with_reducible repeat (first | refine blk_drewN ?_ _ | refine blk_drew ?_ | refine blk_alloc ?_ _)); refine blk_put (cs := #[.int .u64 0, .int .u64 0]) ?_ 0 _ rfl; (with_reducible repeat (first | refine blk_drewN ?_ _ | refine blk_drew ?_ | refine blk_alloc ?_ _)); exact BK364.out) Try.underlying24 rfl (by kernel_rfl)) rfl ?_
    exact ⟨by first | rfl | (simp [errW_none, errW_some] <;> rfl) | (simp [*, errW_none, errW_some] <;> rfl), by repeat (first | (with_reducible first | exact HB.out | apply below_alloc | apply pw_below_drewN | apply below_drew1 | refine below_set ?_ GE363.out | refine below_set ?_ GE364.out | refine below_set ?_ GE365.out) | exact HB.out)⟩

end Go.Proofs.Ytnljfoaacngamaa.PD
