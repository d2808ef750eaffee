-- turned from the kit's print
import Derived.Test.YtnljfoaacngamaaPDx0
import Derived.Test.YtnljfoaacngamaaShort
import Derived.WalkMore
import Derived.Outline
import Derived.Test.YtnljfoaacngamaaPDx1
import Derived.Test.YtnljfoaacngamaaPDx2
import Derived.Test.YtnljfoaacngamaaPDx4
import Derived.Test.YtnljfoaacngamaaPDx7
import Derived.Test.YtnljfoaacngamaaPDx10
namespace Go.Proofs.Ytnljfoaacngamaa.PD
open Go.RowKit Go.Proofs.YtnljfoaacngamaaW.PrintWords Go.Proofs.YtnljfoaacngamaaW.PrintLast Go.Proofs.YtnljfoaacngamaaW.PrintMore
attribute [local go_sem] max2_int min2_int max_two min_two max_three min_three max_four min_four   -- for this text's walks alone
set_option linter.unusedVariables false
set_option linter.unusedSimpArgs false

attribute [local go_sem high] eqA24
/-! ### tnum_Sub: function 31 -/
def tnum_Sub.f (a0_0 : Int) (a0_1 : Int) (a1_0 : Int) (a1_1 : Int) : Option (Int × Int) := (tnum_of.f (IntKind.u64.wrap (a0_0 - a1_0)) (Go.bits .or .u64 (Go.bits .or .u64 (Go.bits .xor .u64 (IntKind.u64.wrap ((IntKind.u64.wrap (a0_0 - a1_0)) + a0_1)) (IntKind.u64.wrap ((IntKind.u64.wrap (a0_0 - a1_0)) - a1_1))) a0_1) a1_1)).bind fun bt320 => (some (bt320.1, bt320.2))
set_option maxHeartbeats 8000000 in
set_option maxRecDepth 100000 in
theorem tnum_Sub.calls (a0_0 : Int) (a0_1 : Int) (a1_0 : Int) (a1_1 : Int) (r1 : Int) (r2 : Int) (w : World) (h : tnum_Sub.f a0_0 a0_1 a1_0 a1_1 = some (r1, r2)) :
  Calls Try.prog 31 #[.agg #[.int .u64 a0_0, .int .u64 a0_1], .agg #[.int .u64 a1_0, .int .u64 a1_1]] w fun e w' => e = .returned (.agg #[.int .u64 r1, .int .u64 r2]) ∧ Below w.heap.size w w' := by
 have hu24 := Try.underlying24
 have HB := am (Below.refl w.heap.size w)
 have H : ((tnum_of.f (IntKind.u64.wrap (a0_0 - a1_0)) (Go.bits .or .u64 (Go.bits .or .u64 (Go.bits .xor .u64 (IntKind.u64.wrap ((IntKind.u64.wrap (a0_0 - a1_0)) + a0_1)) (IntKind.u64.wrap ((IntKind.u64.wrap (a0_0 - a1_0)) - a1_1))) a0_1) a1_1)).bind fun bt320 => (some (bt320.1, bt320.2))) = some (r1, r2) := h
 clear h
 replace H := Option.bind_eq_some_iff.mp H
 obtain ⟨⟨t320, t321⟩, A30, H⟩ := H
 replace H : (some (t320, t321)) = some (r1, r2) := H
 have A3 := am A30
 clear A30
 simp only [Option.some.injEq, Prod.mk.injEq] at H
 obtain ⟨rfl, rfl⟩ := H
 go_enter Try.func31, Try.ntmps31
 go_wp2_with (first | ((with_reducible refine gate_dst (N := 2) rfl ?_); refine box_event ?hg (N := 2) ?hd (cs := #[.int .u64 a0_0, .int .u64 a0_1]) (t := 24) ?hr ?_; (case hd => rfl); (case hg => rfl); (case hr => first | (go_simp; done) | (go_simp; rfl)); intro gb317 hg w4 hbox hb; have n0_ := am (below_step HB.out hb); have n1_ := am (hbox); have n2_ := am ((by rw [hg]; exact (below_size HB.out) : w.heap.size ≤ gb317)); have n3_ := am ((by rw [hg]; exact (below_size HB.out) : w.heap.size ≤ gb317)); clear HB; have HB := n0_; have BK317 := n1_; have GW317 := n2_; have GE317 := n3_; clear n0_ n1_ n2_ n3_; clear hb hbox hg) | ((with_reducible refine gate_dst (N := 3) rfl ?_); refine box_event ?hg (N := 3) ?hd (cs := #[.int .u64 a1_0, .int .u64 a1_1]) (t := 24) ?hr ?_; (case hd => rfl); (case hg => rfl); (case hr => first | (go_simp; done) | (go_simp; rfl)); intro gb318 hg w5 hbox hb; have n0_ := am (blk_below BK317.out hb); have n1_ := am (below_step (by repeat (first | exact HB.out | refine below_set ?_ GE317.out)) hb); have n2_ := am (hbox); have n3_ := am ((by rw [hg]; exact (below_size (by repeat (first | exact HB.out | refine below_set ?_ GE317.out))) : w.heap.size ≤ gb318)); have n4_ := am ((by rw [hg]; exact (below_size (by repeat (first | exact HB.out | refine below_set ?_ GE317.out))) : w.heap.size ≤ gb318)); have n5_ := am ((by rw [hg]; exact Nat.ne_of_lt (blk_lt BK317.out) : gb317 ≠ gb318)); have n6_ := am ((by rw [hg]; exact Nat.ne_of_gt (blk_lt BK317.out) : gb318 ≠ gb317)); clear BK317; clear HB; have BK317 := n0_; have HB := n1_; have BK318 := n2_; have GW318 := n3_; have GE318 := n4_; have NB317_318 := n5_; have NB318_317 := n6_; clear n0_ n1_ n2_ n3_ n4_ n5_ n6_; clear hb hbox hg) | ((with_reducible refine gate_dst (N := 4) rfl ?_); refine box_event ?hg (N := 4) ?hd (cs := #[.int .u64 0, .int .u64 0]) (t := 24) ?hr ?_; (case hd => rfl); (case hg => rfl); (case hr => first | (go_simp; done) | (go_simp; rfl)); intro gb319 hg w6 hbox hb; have n0_ := am (blk_below BK317.out hb); have n1_ := am (blk_below BK318.out hb); have n2_ := am (below_step (by repeat (first | exact HB.out | refine below_set ?_ GE317.out | refine below_set ?_ GE318.out)) hb); have n3_ := am (hbox); have n4_ := am ((by rw [hg]; exact (below_size (by repeat (first | exact HB.out | refine below_set ?_ GE317.out | refine below_set ?_ GE318.out))) : w.heap.size ≤ gb319)); have n5_ := am ((by rw [hg]; exact (below_size (by repeat (first | exact HB.out | refine below_set ?_ GE317.out | refine below_set ?_ GE318.out))) : w.heap.size ≤ gb319)); have n6_ := am ((by rw [hg]; exact Nat.ne_of_lt (blk_lt BK317.out) : gb317 ≠ gb319)); have n7_ := am ((by rw [hg]; exact Nat.ne_of_gt (blk_lt BK317.out) : gb319 ≠ gb317)); have n8_ := am ((by rw [hg]; exact Nat.ne_of_lt (blk_lt BK318.out) : gb318 ≠ gb319)); have n9_ := am ((by rw [hg]; exact Nat.ne_of_gt (blk_lt BK318.out) : gb319 ≠ gb318)); clear BK317; clear BK318; clear HB; have BK317 := n0_; have BK318 := n1_; have HB := n2_; have BK319 := n3_; have GW319 := n4_; have GE319 := n5_; have NB317_319 := n6_; have NB319_317 := n7_; have NB318_319 := n8_; have NB319_318 := n9_; clear n0_ n1_ n2_ n3_ n4_ n5_ n6_ n7_ n8_ n9_; clear hb hbox hg; have hnb7 := NB317_318.out; have hnc7 := NB318_317.out; have hnb8 := NB317_319.out; have hnc8 := NB319_317.out; have hcz9_0 : w6.cell? ⟨gb317, 0, none⟩ = some (.int .u64 a0_0) := (blk_cell BK317.out 0).trans rfl; have hcz9_1 : w6.cell? ⟨gb317, 1, none⟩ = some (.int .u64 a0_1) := (blk_cell BK317.out 1).trans rfl; have hfz9_0 := blk_frozen BK317.out 0; have hfz9_1 := blk_frozen BK317.out 1; have hnb10 := NB318_319.out; have hnc10 := NB319_318.out; have hcz11_0 : w6.cell? ⟨gb318, 0, none⟩ = some (.int .u64 a1_0) := (blk_cell BK318.out 0).trans rfl; have hcz11_1 : w6.cell? ⟨gb318, 1, none⟩ = some (.int .u64 a1_1) := (blk_cell BK318.out 1).trans rfl; have hfz11_0 := blk_frozen BK318.out 0; have hfz11_1 := blk_frozen BK318.out 1) | ((with_reducible refine gate_callee (f := 39) rfl ?_); refine goesL_ (some 27) rfl rfl Try.func39 (by kernel_rfl) rfl #[.int .u64 (IntKind.u64.wrap (a0_0 - a1_0)), .int .u64 (Go.bits .or .u64 (Go.bits .or .u64 (Go.bits .xor .u64 (IntKind.u64.wrap ((IntKind.u64.wrap (a0_0 - a1_0)) + a0_1)) (IntKind.u64.wrap ((IntKind.u64.wrap (a0_0 - a1_0)) - a1_1))) a0_1) a1_1)] rfl (by (try simp only [List.map_toArray, List.map_cons, List.map_nil]); first | done | rfl) ?_; (with_reducible refine (tnum_of.calls (IntKind.u64.wrap (a0_0 - a1_0)) (Go.bits .or .u64 (Go.bits .or .u64 (Go.bits .xor .u64 (IntKind.u64.wrap ((IntKind.u64.wrap (a0_0 - a1_0)) + a0_1)) (IntKind.u64.wrap ((IntKind.u64.wrap (a0_0 - a1_0)) - a1_1))) a0_1) a1_1) t320 t321 _ A3.out).mono ?_); rintro e w12 ⟨rfl, hb⟩; refine ⟨_, rfl, ?_⟩; have n0_ := am (blk_below BK317.out hb); have n1_ := am (blk_below BK318.out hb); have n2_ := am (blk_below BK319.out hb); have n3_ := am (below_step (by repeat (first | exact HB.out | refine below_set ?_ GE317.out | refine below_set ?_ GE318.out | refine below_set ?_ GE319.out)) hb); clear BK317; clear BK318; clear BK319; clear HB; have BK317 := n0_; have BK318 := n1_; have BK319 := n2_; have HB := n3_; clear n0_ n1_ n2_ n3_; (try clear hb); (try clear hb2); (try clear hk); (try clear hi); have hcz13_0 : w12.cell? ⟨gb319, 0, none⟩ = some (.int .u64 0) := (blk_cell BK319.out 0).trans rfl; have hcz13_1 : w12.cell? ⟨gb319, 1, none⟩ = some (.int .u64 0) := (blk_cell BK319.out 1).trans rfl; have hfz13_0 := blk_frozen BK319.out 0; have hfz13_1 := blk_frozen BK319.out 1))
 refine bodyPost_ret (results_cell_row rfl _ _ gb319 24 #[.int .u64 t320, .int .u64 t321] (0, 0) _ rfl (by (with_reducible repeat (first | refine blk_drewN ?_ _ | refine blk_drew ?_ | refine blk_alloc ?_ _)); refine blk_put (cs := #[.int .u64 t320, .int .u64 0]) ?_ 1 _ rfl; (with_reducible repeat (first | refine blk_drewN ?_ _ | refine blk_drew ?_ | refine blk_alloc ?_ _)); refine blk_put (cs := #[.int .u64 0, .int .u64 0]) ?_ 0 _ rfl; (with_reducible repeat (first | refine blk_drewN ?_ _ | refine blk_drew ?_ | refine blk_alloc ?_ _)); exact BK319.out) Try.underlying24 rfl (by kernel_rfl)) rfl ?_
 exact ⟨by first | rfl | (simp [errW_none, errW_some] <;> rfl) | (simp [*, errW_none, errW_some] <;> rfl), by repeat (first | (with_reducible first | exact HB.out | apply below_alloc | apply pw_below_drewN | apply below_drew1 | refine below_set ?_ GE317.out | refine below_set ?_ GE318.out | refine below_set ?_ GE319.out) | exact HB.out)⟩

/-! ### tnum_Mul: function 33 -/
mutual
def tnum_Mul.l0 : Nat → Int → Int → Int → Int → Int → Int → Int → Int → Option (Int × Int)
 | 0, _, _, _, _, _, _, _, _ => none
 | k + 1, x326000, x326001, x327000, x327001, x331000, x331001, x332000, x332001 => if (!(x326000 == 0) || (!(x326001 == 0))) = true then (if (Go.bits .and .u64 x326000 1) = 1 then ((tnum_Add.f x332000 x332001 0 x327001).bind fun bt334 => (tnum_Mul.j1 k x326000 x326001 x327000 x327001 x331000 x331001 bt334.1 bt334.2)) else (if (Go.bits .and .u64 x326001 1) = 1 then ((tnum_Add.f x332000 x332001 0 (Go.bits .or .u64 x327000 x327001)).bind fun bt336 => (tnum_Mul.j1 k x326000 x326001 x327000 x327001 x331000 x331001 bt336.1 bt336.2)) else (tnum_Mul.j1 k x326000 x326001 x327000 x327001 x331000 x331001 x332000 x332001))) else ((tnum_Add.f x332000 x332001 x331000 x331001).bind fun bt332 => (some (bt332.1, bt332.2)))
def tnum_Mul.j1 : Nat → Int → Int → Int → Int → Int → Int → Int → Int → Option (Int × Int)
 | 0, _, _, _, _, _, _, _, _ => none
 | k + 1, x326000, x326001, x327000, x327001, x331000, x331001, x332000, x332001 => (tnum_Shr.f x326000 x326001 1).bind fun bt338 => ((tnum_Shl.f x327000 x327001 1).bind fun bt340 => (if (bt340.1 == 0 && (bt340.2 == 0)) = true then ((tnum_Add.f x332000 x332001 x331000 x331001).bind fun bt342 => (some (bt342.1, bt342.2))) else (tnum_Mul.l0 k bt338.1 bt338.2 bt340.1 bt340.2 x331000 x331001 x332000 x332001)))
end
def tnum_Mul.f (k : Nat) (a0_0 : Int) (a0_1 : Int) (a1_0 : Int) (a1_1 : Int) : Option (Int × Int) := (tnum_Const.f (IntKind.u64.wrap (a0_0 * a1_0))).bind fun bt328 => (tnum_Mul.l0 k a0_0 a0_1 a1_0 a1_1 bt328.1 bt328.2 0 0)
theorem tnum_Mul.mono_l : ∀ k, (∀ y0 y1 y2 y3 y4 y5 y6 y7, LeO (tnum_Mul.l0 k y0 y1 y2 y3 y4 y5 y6 y7) (tnum_Mul.l0 (k + 1) y0 y1 y2 y3 y4 y5 y6 y7)) ∧ (∀ y0 y1 y2 y3 y4 y5 y6 y7, LeO (tnum_Mul.j1 k y0 y1 y2 y3 y4 y5 y6 y7) (tnum_Mul.j1 (k + 1) y0 y1 y2 y3 y4 y5 y6 y7))
 | 0 => ⟨fun _ _ _ _ _ _ _ _ r h => by simp [tnum_Mul.l0] at h, fun _ _ _ _ _ _ _ _ r h => by simp [tnum_Mul.j1] at h⟩
 | k + 1 => by
  obtain ⟨ih0, ih1⟩ := tnum_Mul.mono_l k
  refine ⟨?_, ?_⟩
  ·intro y0 y1 y2 y3 y4 y5 y6 y7
   unfold tnum_Mul.l0
   repeat' first
   | (with_reducible exact ih0 _ _ _ _ _ _ _ _)
   | (with_reducible exact ih1 _ _ _ _ _ _ _ _)
   | (with_reducible exact LeO.refl _)
   | (with_reducible exact LeO.none _)
   | (with_reducible refine LeO.ite ?_ ?_)
   | (with_reducible refine LeO.bind ?_ (fun _ => ?_))
   | exact ih0 _ _ _ _ _ _ _ _
   | exact ih1 _ _ _ _ _ _ _ _
   | exact LeO.none _
   | refine LeO.ite ?_ ?_
   | refine LeO.bind ?_ (fun _ => ?_)
  ·intro y0 y1 y2 y3 y4 y5 y6 y7
   unfold tnum_Mul.j1
   repeat' first
   | (with_reducible exact ih0 _ _ _ _ _ _ _ _)
   | (with_reducible exact ih1 _ _ _ _ _ _ _ _)
   | (with_reducible exact LeO.refl _)
   | (with_reducible exact LeO.none _)
   | (with_reducible refine LeO.ite ?_ ?_)
   | (with_reducible refine LeO.bind ?_ (fun _ => ?_))
   | exact ih0 _ _ _ _ _ _ _ _
   | exact ih1 _ _ _ _ _ _ _ _
   | exact LeO.none _
   | refine LeO.ite ?_ ?_
   | refine LeO.bind ?_ (fun _ => ?_)
theorem tnum_Mul.mono : ∀ a0 a1 a2 a3 k, LeO (tnum_Mul.f k a0 a1 a2 a3) (tnum_Mul.f (k + 1) a0 a1 a2 a3) := by
 intro a0 a1 a2 a3 k
 obtain ⟨ih0, ih1⟩ := tnum_Mul.mono_l k
 unfold tnum_Mul.f
 repeat' first
   | (with_reducible exact ih0 _ _ _ _ _ _ _ _)
   | (with_reducible exact ih1 _ _ _ _ _ _ _ _)
   | (with_reducible exact LeO.refl _)
   | (with_reducible exact LeO.none _)
   | (with_reducible refine LeO.ite ?_ ?_)
   | (with_reducible refine LeO.bind ?_ (fun _ => ?_))
   | exact ih0 _ _ _ _ _ _ _ _
   | exact ih1 _ _ _ _ _ _ _ _
   | exact LeO.none _
   | refine LeO.ite ?_ ?_
   | refine LeO.bind ?_ (fun _ => ?_)
set_option maxHeartbeats 8000000 in
set_option maxRecDepth 100000 in
theorem tnum_Mul.calls (k : Nat) (a0_0 : Int) (a0_1 : Int) (a1_0 : Int) (a1_1 : Int) (r1 : Int) (r2 : Int) (w : World) (h : tnum_Mul.f k a0_0 a0_1 a1_0 a1_1 = some (r1, r2)) :
  Calls Try.prog 33 #[.agg #[.int .u64 a0_0, .int .u64 a0_1], .agg #[.int .u64 a1_0, .int .u64 a1_1]] w fun e w' => e = .returned (.agg #[.int .u64 r1, .int .u64 r2]) ∧ Below w.heap.size w w' := by
 have hu24 := Try.underlying24
 have HB := am (Below.refl w.heap.size w)
 have H : ((tnum_Const.f (IntKind.u64.wrap (a0_0 * a1_0))).bind fun bt328 => (tnum_Mul.l0 k a0_0 a0_1 a1_0 a1_1 bt328.1 bt328.2 0 0)) = some (r1, r2) := h
 clear h
 replace H := Option.bind_eq_some_iff.mp H
 obtain ⟨⟨t328, t329⟩, A30, H⟩ := H
 replace H : (tnum_Mul.l0 k a0_0 a0_1 a1_0 a1_1 t328 t329 0 0) = some (r1, r2) := H
 have A3 := am A30
 clear A30
 have H' := am H
 clear H
 go_enter Try.func33, Try.ntmps33
 go_wp2_with (first | ((with_reducible refine gate_dst (N := 2) rfl ?_); refine box_event ?hg (N := 2) ?hd (cs := #[.int .u64 a0_0, .int .u64 a0_1]) (t := 24) ?hr ?_; (case hd => rfl); (case hg => rfl); (case hr => first | (go_simp; done) | (go_simp; rfl)); intro gb325 hg w4 hbox hb; have n0_ := am (below_step HB.out hb); have n1_ := am (hbox); have n2_ := am ((by rw [hg]; exact (below_size HB.out) : w.heap.size ≤ gb325)); have n3_ := am ((by rw [hg]; exact (below_size HB.out) : w.heap.size ≤ gb325)); clear HB; have HB := n0_; have BK325 := n1_; have GW325 := n2_; have GE325 := n3_; clear n0_ n1_ n2_ n3_; clear hb hbox hg) | ((with_reducible refine gate_dst (N := 3) rfl ?_); refine box_event ?hg (N := 3) ?hd (cs := #[.int .u64 a1_0, .int .u64 a1_1]) (t := 24) ?hr ?_; (case hd => rfl); (case hg => rfl); (case hr => first | (go_simp; done) | (go_simp; rfl)); intro gb326 hg w5 hbox hb; have n0_ := am (blk_below BK325.out hb); have n1_ := am (below_step (by repeat (first | exact HB.out | refine below_set ?_ GE325.out)) hb); have n2_ := am (hbox); have n3_ := am ((by rw [hg]; exact (below_size (by repeat (first | exact HB.out | refine below_set ?_ GE325.out))) : w.heap.size ≤ gb326)); have n4_ := am ((by rw [hg]; exact (below_size (by repeat (first | exact HB.out | refine below_set ?_ GE325.out))) : w.heap.size ≤ gb326)); have n5_ := am ((by rw [hg]; exact Nat.ne_of_lt (blk_lt BK325.out) : gb325 ≠ gb326)); have n6_ := am ((by rw [hg]; exact Nat.ne_of_gt (blk_lt BK325.out) : gb326 ≠ gb325)); clear BK325; clear HB; have BK325 := n0_; have HB := n1_; have BK326 := n2_; have GW326 := n3_; have GE326 := n4_; have NB325_326 := n5_; have NB326_325 := n6_; clear n0_ n1_ n2_ n3_ n4_ n5_ n6_; clear hb hbox hg) | ((with_reducible refine gate_dst (N := 4) rfl ?_); refine box_event ?hg (N := 4) ?hd (cs := #[.int .u64 0, .int .u64 0]) (t := 24) ?hr ?_; (case hd => rfl); (case hg => rfl); (case hr => first | (go_simp; done) | (go_simp; rfl)); intro gb327 hg w6 hbox hb; have n0_ := am (blk_below BK325.out hb); have n1_ := am (blk_below BK326.out hb); have n2_ := am (below_step (by repeat (first | exact HB.out | refine below_set ?_ GE325.out | refine below_set ?_ GE326.out)) hb); have n3_ := am (hbox); have n4_ := am ((by rw [hg]; exact (below_size (by repeat (first | exact HB.out | refine below_set ?_ GE325.out | refine below_set ?_ GE326.out))) : w.heap.size ≤ gb327)); have n5_ := am ((by rw [hg]; exact (below_size (by repeat (first | exact HB.out | refine below_set ?_ GE325.out | refine below_set ?_ GE326.out))) : w.heap.size ≤ gb327)); have n6_ := am ((by rw [hg]; exact Nat.ne_of_lt (blk_lt BK325.out) : gb325 ≠ gb327)); have n7_ := am ((by rw [hg]; exact Nat.ne_of_gt (blk_lt BK325.out) : gb327 ≠ gb325)); have n8_ := am ((by rw [hg]; exact Nat.ne_of_lt (blk_lt BK326.out) : gb326 ≠ gb327)); have n9_ := am ((by rw [hg]; exact Nat.ne_of_gt (blk_lt BK326.out) : gb327 ≠ gb326)); clear BK325; clear BK326; clear HB; have BK325 := n0_; have BK326 := n1_; have HB := n2_; have BK327 := n3_; have GW327 := n4_; have GE327 := n5_; have NB325_327 := n6_; have NB327_325 := n7_; have NB326_327 := n8_; have NB327_326 := n9_; clear n0_ n1_ n2_ n3_ n4_ n5_ n6_ n7_ n8_ n9_; clear hb hbox hg; have hnb7 := NB325_326.out; have hnc7 := NB326_325.out; have hnb8 := NB325_327.out; have hnc8 := NB327_325.out; have hcz9_0 : w6.cell? ⟨gb325, 0, none⟩ = some (.int .u64 a0_0) := (blk_cell BK325.out 0).trans rfl; have hcz9_1 : w6.cell? ⟨gb325, 1, none⟩ = some (.int .u64 a0_1) := (blk_cell BK325.out 1).trans rfl; have hfz9_0 := blk_frozen BK325.out 0; have hfz9_1 := blk_frozen BK325.out 1; have hnb10 := NB326_327.out; have hnc10 := NB327_326.out; have hcz11_0 : w6.cell? ⟨gb326, 0, none⟩ = some (.int .u64 a1_0) := (blk_cell BK326.out 0).trans rfl; have hcz11_1 : w6.cell? ⟨gb326, 1, none⟩ = some (.int .u64 a1_1) := (blk_cell BK326.out 1).trans rfl; have hfz11_0 := blk_frozen BK326.out 0; have hfz11_1 := blk_frozen BK326.out 1) | ((with_reducible refine gate_callee (f := 17) rfl ?_); refine goesL_ (some 12) rfl rfl Try.func17 (by kernel_rfl) rfl #[.int .u64 (IntKind.u64.wrap (a0_0 * a1_0))] rfl (by (try simp only [List.map_toArray, List.map_cons, List.map_nil]); first | done | rfl) ?_; (with_reducible refine (tnum_Const.calls (IntKind.u64.wrap (a0_0 * a1_0)) t328 t329 _ A3.out).mono ?_); rintro e w12 ⟨rfl, hb⟩; refine ⟨_, rfl, ?_⟩; have n0_ := am (blk_below BK325.out hb); have n1_ := am (blk_below BK326.out hb); have n2_ := am (blk_below BK327.out hb); have n3_ := am (below_step (by repeat (first | exact HB.out | refine below_set ?_ GE325.out | refine below_set ?_ GE326.out | refine below_set ?_ GE327.out)) hb); clear BK325; clear BK326; clear BK327; clear HB; have BK325 := n0_; have BK326 := n1_; have BK327 := n2_; have HB := n3_; clear n0_ n1_ n2_ n3_; (try clear hb); (try clear hb2); (try clear hk); (try clear hi)) | ((with_reducible refine gate_dst (N := 5) rfl ?_); refine box_event ?hg (N := 5) ?hd (cs := #[.int .u64 0, .int .u64 0]) (t := 24) ?hr ?_; (case hd => rfl); (case hg => rfl); (case hr => first | (go_simp; done) | (go_simp; rfl)); intro gb330 hg w13 hbox hb; have n0_ := am (blk_below BK325.out hb); have n1_ := am (blk_below BK326.out hb); have n2_ := am (blk_below BK327.out hb); have n3_ := am (below_step (by repeat (first | exact HB.out | refine below_set ?_ GE325.out | refine below_set ?_ GE326.out | refine below_set ?_ GE327.out)) hb); have n4_ := am (hbox); have n5_ := am ((by rw [hg]; exact (below_size (by repeat (first | exact HB.out | refine below_set ?_ GE325.out | refine below_set ?_ GE326.out | refine below_set ?_ GE327.out))) : w.heap.size ≤ gb330)); have n6_ := am ((by rw [hg]; exact (below_size (by repeat (first | exact HB.out | refine below_set ?_ GE325.out | refine below_set ?_ GE326.out | refine below_set ?_ GE327.out))) : w.heap.size ≤ gb330)); have n7_ := am ((by rw [hg]; exact Nat.ne_of_lt (blk_lt BK325.out) : gb325 ≠ gb330)); have n8_ := am ((by rw [hg]; exact Nat.ne_of_gt (blk_lt BK325.out) : gb330 ≠ gb325)); have n9_ := am ((by rw [hg]; exact Nat.ne_of_lt (blk_lt BK326.out) : gb326 ≠ gb330)); have n10_ := am ((by rw [hg]; exact Nat.ne_of_gt (blk_lt BK326.out) : gb330 ≠ gb326)); have n11_ := am ((by rw [hg]; exact Nat.ne_of_lt (blk_lt BK327.out) : gb327 ≠ gb330)); have n12_ := am ((by rw [hg]; exact Nat.ne_of_gt (blk_lt BK327.out) : gb330 ≠ gb327)); clear BK325; clear BK326; clear BK327; clear HB; have BK325 := n0_; have BK326 := n1_; have BK327 := n2_; have HB := n3_; have BK330 := n4_; have GW330 := n5_; have GE330 := n6_; have NB325_330 := n7_; have NB330_325 := n8_; have NB326_330 := n9_; have NB330_326 := n10_; have NB327_330 := n11_; have NB330_327 := n12_; clear n0_ n1_ n2_ n3_ n4_ n5_ n6_ n7_ n8_ n9_ n10_ n11_ n12_; clear hb hbox hg; have hnb14 := NB330_325.out; have hnc14 := NB325_330.out; have hnb15 := NB330_326.out; have hnc15 := NB326_330.out; have hnb16 := NB330_327.out; have hnc16 := NB327_330.out; have hcz17_0 : w13.cell? ⟨gb330, 0, none⟩ = some (.int .u64 0) := (blk_cell BK330.out 0).trans rfl; have hcz17_1 : w13.cell? ⟨gb330, 1, none⟩ = some (.int .u64 0) := (blk_cell BK330.out 1).trans rfl; have hfz17_0 := blk_frozen BK330.out 0; have hfz17_1 := blk_frozen BK330.out 1) | ((with_reducible refine gate_dst (N := 6) rfl ?_); refine box_event ?hg (N := 6) ?hd (cs := #[.int .u64 0, .int .u64 0]) (t := 24) ?hr ?_; (case hd => rfl); (case hg => rfl); (case hr => first | (go_simp; done) | (go_simp; rfl)); intro gb331 hg w18 hbox hb; have n0_ := am (blk_below (g := gb325) (o := .cells #[.int .u64 a0_0, .int .u64 a0_1] 24 (0, 0)) (by (with_reducible repeat (first | refine blk_drewN ?_ _ | refine blk_drew ?_ | refine blk_alloc ?_ _)); refine blk_far ?_ NB325_330.out _; (with_reducible repeat (first | refine blk_drewN ?_ _ | refine blk_drew ?_ | refine blk_alloc ?_ _)); refine blk_far ?_ NB325_330.out _; (with_reducible repeat (first | refine blk_drewN ?_ _ | refine blk_drew ?_ | refine blk_alloc ?_ _)); exact BK325.out) hb); have n1_ := am (blk_below (g := gb326) (o := .cells #[.int .u64 a1_0, .int .u64 a1_1] 24 (0, 0)) (by (with_reducible repeat (first | refine blk_drewN ?_ _ | refine blk_drew ?_ | refine blk_alloc ?_ _)); refine blk_far ?_ NB326_330.out _; (with_reducible repeat (first | refine blk_drewN ?_ _ | refine blk_drew ?_ | refine blk_alloc ?_ _)); refine blk_far ?_ NB326_330.out _; (with_reducible repeat (first | refine blk_drewN ?_ _ | refine blk_drew ?_ | refine blk_alloc ?_ _)); exact BK326.out) hb); have n2_ := am (blk_below (g := gb327) (o := .cells #[.int .u64 0, .int .u64 0] 24 (0, 0)) (by (with_reducible repeat (first | refine blk_drewN ?_ _ | refine blk_drew ?_ | refine blk_alloc ?_ _)); refine blk_far ?_ NB327_330.out _; (with_reducible repeat (first | refine blk_drewN ?_ _ | refine blk_drew ?_ | refine blk_alloc ?_ _)); refine blk_far ?_ NB327_330.out _; (with_reducible repeat (first | refine blk_drewN ?_ _ | refine blk_drew ?_ | refine blk_alloc ?_ _)); exact BK327.out) hb); have n3_ := am (blk_below (g := gb330) (o := .cells #[.int .u64 t328, .int .u64 t329] 24 (0, 0)) (by (with_reducible repeat (first | refine blk_drewN ?_ _ | refine blk_drew ?_ | refine blk_alloc ?_ _)); refine blk_put (cs := #[.int .u64 t328, .int .u64 0]) ?_ 1 _ rfl; (with_reducible repeat (first | refine blk_drewN ?_ _ | refine blk_drew ?_ | refine blk_alloc ?_ _)); refine blk_put (cs := #[.int .u64 0, .int .u64 0]) ?_ 0 _ rfl; (with_reducible repeat (first | refine blk_drewN ?_ _ | refine blk_drew ?_ | refine blk_alloc ?_ _)); exact BK330.out) hb); have n4_ := am (below_step (by repeat (first | exact HB.out | refine below_set ?_ GE325.out | refine below_set ?_ GE326.out | refine below_set ?_ GE327.out | refine below_set ?_ GE330.out)) hb); have n5_ := am (hbox); have n6_ := am ((by rw [hg]; exact (below_size (by repeat (first | exact HB.out | refine below_set ?_ GE325.out | refine below_set ?_ GE326.out | refine below_set ?_ GE327.out | refine below_set ?_ GE330.out))) : w.heap.size ≤ gb331)); have n7_ := am ((by rw [hg]; exact (below_size (by repeat (first | exact HB.out | refine below_set ?_ GE325.out | refine below_set ?_ GE326.out | refine below_set ?_ GE327.out | refine below_set ?_ GE330.out))) : w.heap.size ≤ gb331)); have n8_ := am ((by rw [hg]; exact Nat.ne_of_lt (blk_lt (g := gb325) (o := .cells #[.int .u64 a0_0, .int .u64 a0_1] 24 (0, 0)) (by (with_reducible repeat (first | refine blk_drewN ?_ _ | refine blk_drew ?_ | refine blk_alloc ?_ _)); refine blk_far ?_ NB325_330.out _; (with_reducible repeat (first | refine blk_drewN ?_ _ | refine blk_drew ?_ | refine blk_alloc ?_ _)); refine blk_far ?_ NB325_330.out _; (with_reducible repeat (first | refine blk_drewN ?_ _ | refine blk_drew ?_ | refine blk_alloc ?_ _)); exact BK325.out)) : gb325 ≠ gb331)); have n9_ := am ((by rw [hg]; exact Nat.ne_of_gt (blk_lt (g := gb325) (o := .cells #[.int .u64 a0_0, .int .u64 a0_1] 24 (0, 0)) (by (with_reducible repeat (first | refine blk_drewN ?_ _ | refine blk_drew ?_ | refine blk_alloc ?_ _)); refine blk_far ?_ NB325_330.out _; (with_reducible repeat (first | refine blk_drewN ?_ _ | refine blk_drew ?_ | refine blk_alloc ?_ _)); refine blk_far ?_ NB325_330.out _; (with_reducible repeat (first | refine blk_drewN ?_ _ | refine blk_drew ?_ | refine blk_alloc ?_ _)); exact BK325.out)) : gb331 ≠ gb325)); have n10_ := am ((by rw [hg]; exact Nat.ne_of_lt (blk_lt (g := gb326) (o := .cells #[.int .u64 a1_0, .int .u64 a1_1] 24 (0, 0)) (by (with_reducible repeat (first | refine blk_drewN ?_ _ | refine blk_drew ?_ | refine blk_alloc ?_ _)); refine blk_far ?_ NB326_330.out _; (with_reducible repeat (first | refine blk_drewN ?_ _ | refine blk_drew ?_ | refine blk_alloc ?_ _)); refine blk_far ?_ NB326_330.out _; (with_reducible repeat (first | refine blk_drewN ?_ _ | refine blk_drew ?_ | refine blk_alloc ?_ _)); exact BK326.out)) : gb326 ≠ gb331)); have n11_ := am ((by rw [hg]; exact Nat.ne_of_gt (blk_lt (g := gb326) (o := .cells #[.int .u64 a1_0, .int .u64 a1_1] 24 (0, 0)) (by (with_reducible repeat (first | refine blk_drewN ?_ _ | refine blk_drew ?_ | refine blk_alloc ?_ _)); refine blk_far ?_ NB326_330.out _; (with_reducible repeat (first | refine blk_drewN ?_ _ | refine blk_drew ?_ | refine blk_alloc ?_ _)); refine blk_far ?_ NB326_330.out _; (with_reducible repeat (first | refine blk_drewN ?_ _ | refine blk_drew ?_ | refine blk_alloc ?_ _)); exact BK326.out)) : gb331 ≠ gb326)); have n12_ := am ((by rw [hg]; exact Nat.ne_of_lt (blk_lt (g := gb327) (o := .cells #[.int .u64 0, .int .u64 0] 24 (0, 0)) (by (with_reducible repeat (first | refine blk_drewN ?_ _ | refine blk_drew ?_ | refine blk_alloc ?_ _)); refine blk_far ?_ NB327_330.out _; (with_reducible repeat (first | refine blk_drewN ?_ _ | refine blk_drew ?_ | refine blk_alloc ?_ _)); refine blk_far ?_ NB327_330.out _; (with_reducible repeat (first | refine blk_drewN ?_ _ | refine blk_drew ?_ | refine blk_alloc ?_ _)); exact BK327.out)) : gb327 ≠ gb331)); have n13_ := am ((by rw [hg]; exact Nat.ne_of_gt (blk_lt (g := gb327) (o := .cells #[.int .u64 0, .int .u64 0] 24 (0, 0)) (by (with_reducible repeat (first | refine blk_drewN ?_ _ | refine blk_drew ?_ | refine blk_alloc ?_ _)); refine blk_far ?_ NB327_330.out _; (with_reducible repeat (first | refine blk_drewN ?_ _ | refine blk_drew ?_ | refine blk_alloc ?_ _)); refine blk_far ?_ NB327_330.out _; (with_reducible repeat (first | refine blk_drewN ?_ _ | refine blk_drew ?_ | refine blk_alloc ?_ _)); exact BK327.out)) : gb331 ≠ gb327)); have n14_ := am ((by rw [hg]; exact Nat.ne_of_lt (blk_lt (g := gb330) (o := .cells #[.int .u64 t328, .int .u64 t329] 24 (0, 0)) (by (with_reducible repeat (first | refine blk_drewN ?_ _ | refine blk_drew ?_ | refine blk_alloc ?_ _)); refine blk_put (cs := #[.int .u64 t328, .int .u64 0]) ?_ 1 _ rfl; (with_reducible repeat (first | refine blk_drewN ?_ _ | refine blk_drew ?_ | refine blk_alloc ?_ _)); refine blk_put (cs := #[.int .u64 0, .int .u64 0]) ?_ 0 _ rfl; (with_reducible repeat (first | refine blk_drewN ?_ _ | refine blk_drew ?_ | refine blk_alloc ?_ _)); exact BK330.out)) : gb330 ≠ gb331)); have n15_ := am ((by rw [hg]; exact Nat.ne_of_gt (blk_lt (g := gb330) (o := .cells #[.int .u64 t328, .int .u64 t329] 24 (0, 0)) (by (with_reducible repeat (first | refine blk_drewN ?_ _ | refine blk_drew ?_ | refine blk_alloc ?_ _)); refine blk_put (cs := #[.int .u64 t328, .int .u64 0]) ?_ 1 _ rfl; (with_reducible repeat (first | refine blk_drewN ?_ _ | refine blk_drew ?_ | refine blk_alloc ?_ _)); refine blk_put (cs := #[.int .u64 0, .int .u64 0]) ?_ 0 _ rfl; (with_reducible repeat (first | refine blk_drewN ?_ _ | refine blk_drew ?_ | refine blk_alloc ?_ _)); exact BK330.out)) : gb331 ≠ gb330)); clear BK325; clear BK326; clear BK327; clear BK330; clear HB; have BK325 := n0_; have BK326 := n1_; have BK327 := n2_; have BK330 := n3_; have HB := n4_; have BK331 := n5_; have GW331 := n6_; have GE331 := n7_; have NB325_331 := n8_; have NB331_325 := n9_; have NB326_331 := n10_; have NB331_326 := n11_; have NB327_331 := n12_; have NB331_327 := n13_; have NB330_331 := n14_; have NB331_330 := n15_; clear n0_ n1_ n2_ n3_ n4_ n5_ n6_ n7_ n8_ n9_ n10_ n11_ n12_ n13_ n14_ n15_; clear hb hbox hg))
 go_step3
 go_wp2_with (first | ((with_reducible refine gate_dst (N := 2) rfl ?_); refine box_event ?hg (N := 2) ?hd (cs := #[.int .u64 a0_0, .int .u64 a0_1]) (t := 24) ?hr ?_; (case hd => rfl); (case hg => rfl); (case hr => first | (go_simp; done) | (go_simp; rfl)); intro gb325 hg w4 hbox hb; have n0_ := am (below_step HB.out hb); have n1_ := am (hbox); have n2_ := am ((by rw [hg]; exact (below_size HB.out) : w.heap.size ≤ gb325)); have n3_ := am ((by rw [hg]; exact (below_size HB.out) : w.heap.size ≤ gb325)); clear HB; have HB := n0_; have BK325 := n1_; have GW325 := n2_; have GE325 := n3_; clear n0_ n1_ n2_ n3_; clear hb hbox hg) | ((with_reducible refine gate_dst (N := 3) rfl ?_); refine box_event ?hg (N := 3) ?hd (cs := #[.int .u64 a1_0, .int .u64 a1_1]) (t := 24) ?hr ?_; (case hd => rfl); (case hg => rfl); (case hr => first | (go_simp; done) | (go_simp; rfl)); intro gb326 hg w5 hbox hb; have n0_ := am (blk_below BK325.out hb); have n1_ := am (below_step (by repeat (first | exact HB.out | refine below_set ?_ GE325.out)) hb); have n2_ := am (hbox); have n3_ := am ((by rw [hg]; exact (below_size (by repeat (first | exact HB.out | refine below_set ?_ GE325.out))) : w.heap.size ≤ gb326)); have n4_ := am ((by rw [hg]; exact (below_size (by repeat (first | exact HB.out | refine below_set ?_ GE325.out))) : w.heap.size ≤ gb326)); have n5_ := am ((by rw [hg]; exact Nat.ne_of_lt (blk_lt BK325.out) : gb325 ≠ gb326)); have n6_ := am ((by rw [hg]; exact Nat.ne_of_gt (blk_lt BK325.out) : gb326 ≠ gb325)); clear BK325; clear HB; have BK325 := n0_; have HB := n1_; have BK326 := n2_; have GW326 := n3_; have GE326 := n4_; have NB325_326 := n5_; have NB326_325 := n6_; clear n0_ n1_ n2_ n3_ n4_ n5_ n6_; clear hb hbox hg) | ((with_reducible refine gate_dst (N := 4) rfl ?_); refine box_event ?hg (N := 4) ?hd (cs := #[.int .u64 0, .int .u64 0]) (t := 24) ?hr ?_; (case hd => rfl); (case hg => rfl); (case hr => first | (go_simp; done) | (go_simp; rfl)); intro gb327 hg w6 hbox hb; have n0_ := am (blk_below BK325.out hb); have n1_ := am (blk_below BK326.out hb); have n2_ := am (below_step (by repeat (first | exact HB.out | refine below_set ?_ GE325.out | refine below_set ?_ GE326.out)) hb); have n3_ := am (hbox); have n4_ := am ((by rw [hg]; exact (below_size (by repeat (first | exact HB.out | refine below_set ?_ GE325.out | refine below_set ?_ GE326.out))) : w.heap.size ≤ gb327)); have n5_ := am ((by rw [hg]; exact (below_size (by repeat (first | exact HB.out | refine below_set ?_ GE325.out | refine below_set ?_ GE326.out))) : w.heap.size ≤ gb327)); have n6_ := am ((by rw [hg]; exact Nat.ne_of_lt (blk_lt BK325.out) : gb325 ≠ gb327)); have n7_ := am ((by rw [hg]; exact Nat.ne_of_gt (blk_lt BK325.out) : gb327 ≠ gb325)); have n8_ := am ((by rw [hg]; exact Nat.ne_of_lt (blk_lt BK326.out) : gb326 ≠ gb327)); have n9_ := am ((by rw [hg]; exact Nat.ne_of_gt (blk_lt BK326.out) : gb327 ≠ gb326)); clear BK325; clear BK326; clear HB; have BK325 := n0_; have BK326 := n1_; have HB := n2_; have BK327 := n3_; have GW327 := n4_; have GE327 := n5_; have NB325_327 := n6_; have NB327_325 := n7_; have NB326_327 := n8_; have NB327_326 := n9_; clear n0_ n1_ n2_ n3_ n4_ n5_ n6_ n7_ n8_ n9_; clear hb hbox hg; have hnb7 := NB325_326.out; have hnc7 := NB326_325.out; have hnb8 := NB325_327.out; have hnc8 := NB327_325.out; have hcz9_0 : w6.cell? ⟨gb325, 0, none⟩ = some (.int .u64 a0_0) := (blk_cell BK325.out 0).trans rfl; have hcz9_1 : w6.cell? ⟨gb325, 1, none⟩ = some (.int .u64 a0_1) := (blk_cell BK325.out 1).trans rfl; have hfz9_0 := blk_frozen BK325.out 0; have hfz9_1 := blk_frozen BK325.out 1; have hnb10 := NB326_327.out; have hnc10 := NB327_326.out; have hcz11_0 : w6.cell? ⟨gb326, 0, none⟩ = some (.int .u64 a1_0) := (blk_cell BK326.out 0).trans rfl; have hcz11_1 : w6.cell? ⟨gb326, 1, none⟩ = some (.int .u64 a1_1) := (blk_cell BK326.out 1).trans rfl; have hfz11_0 := blk_frozen BK326.out 0; have hfz11_1 := blk_frozen BK326.out 1) | ((with_reducible refine gate_callee (f := 17) rfl ?_); refine goesL_ (some 12) rfl rfl Try.func17 (by kernel_rfl) rfl #[.int .u64 (IntKind.u64.wrap (a0_0 * a1_0))] rfl (by (try simp only [List.map_toArray, List.map_cons, List.map_nil]); first | done | rfl) ?_; (with_reducible refine (tnum_Const.calls (IntKind.u64.wrap (a0_0 * a1_0)) t328 t329 _ A3.out).mono ?_); rintro e w12 ⟨rfl, hb⟩; refine ⟨_, rfl, ?_⟩; have n0_ := am (blk_below BK325.out hb); have n1_ := am (blk_below BK326.out hb); have n2_ := am (blk_below BK327.out hb); have n3_ := am (below_step (by repeat (first | exact HB.out | refine below_set ?_ GE325.out | refine below_set ?_ GE326.out | refine below_set ?_ GE327.out)) hb); clear BK325; clear BK326; clear BK327; clear HB; have BK325 := n0_; have BK326 := n1_; have BK327 := n2_; have HB := n3_; clear n0_ n1_ n2_ n3_; (try clear hb); (try clear hb2); (try clear hk); (try clear hi)) | ((with_reducible refine gate_dst (N := 5) rfl ?_); refine box_event ?hg (N := 5) ?hd (cs := #[.int .u64 0, .int .u64 0]) (t := 24) ?hr ?_; (case hd => rfl); (case hg => rfl); (case hr => first | (go_simp; done) | (go_simp; rfl)); intro gb330 hg w13 hbox hb; have n0_ := am (blk_below BK325.out hb); have n1_ := am (blk_below BK326.out hb); have n2_ := am (blk_below BK327.out hb); have n3_ := am (below_step (by repeat (first | exact HB.out | refine below_set ?_ GE325.out | refine below_set ?_ GE326.out | refine below_set ?_ GE327.out)) hb); have n4_ := am (hbox); have n5_ := am ((by rw [hg]; exact (below_size (by repeat (first | exact HB.out | refine below_set ?_ GE325.out | refine below_set ?_ GE326.out | refine below_set ?_ GE327.out))) : w.heap.size ≤ gb330)); have n6_ := am ((by rw [hg]; exact (below_size (by repeat (first | exact HB.out | refine below_set ?_ GE325.out | refine below_set ?_ GE326.out | refine below_set ?_ GE327.out))) : w.heap.size ≤ gb330)); have n7_ := am ((by rw [hg]; exact Nat.ne_of_lt (blk_lt BK325.out) : gb325 ≠ gb330)); have n8_ := am ((by rw [hg]; exact Nat.ne_of_gt (blk_lt BK325.out) : gb330 ≠ gb325)); have n9_ := am ((by rw [hg]; exact Nat.ne_of_lt (blk_lt BK326.out) : gb326 ≠ gb330)); have n10_ := am ((by rw [hg]; exact Nat.ne_of_gt (blk_lt BK326.out) : gb330 ≠ gb326)); have n11_ := am ((by rw [hg]; exact Nat.ne_of_lt (blk_lt BK327.out) : gb327 ≠ gb330)); have n12_ := am ((by rw [hg]; exact Nat.ne_of_gt (blk_lt BK327.out) : gb330 ≠ gb327)); clear BK325; clear BK326; clear BK327; clear HB; have BK325 := n0_; have BK326 := n1_; have BK327 := n2_; have HB := n3_; have BK330 := n4_; have GW330 := n5_; have GE330 := n6_; have NB325_330 := n7_; have NB330_325 := n8_; have NB326_330 := n9_; have NB330_326 := n10_; have NB327_330 := n11_; have NB330_327 := n12_; clear n0_ n1_ n2_ n3_ n4_ n5_ n6_ n7_ n8_ n9_ n10_ n11_ n12_; clear hb hbox hg; have hnb14 := NB330_325.out; have hnc14 := NB325_330.out; have hnb15 := NB330_326.out; have hnc15 := NB326_330.out; have hnb16 := NB330_327.out; have hnc16 := NB327_330.out; have hcz17_0 : w13.cell? ⟨gb330, 0, none⟩ = some (.int .u64 0) := (blk_cell BK330.out 0).trans rfl; have hcz17_1 : w13.cell? ⟨gb330, 1, none⟩ = some (.int .u64 0) := (blk_cell BK330.out 1).trans rfl; have hfz17_0 := blk_frozen BK330.out 0; have hfz17_1 := blk_frozen BK330.out 1) | ((with_reducible refine gate_dst (N := 6) rfl ?_); refine box_event ?hg (N := 6) ?hd (cs := #[.int .u64 0, .int .u64 0]) (t := 24) ?hr ?_; (case hd => rfl); (case hg => rfl); (case hr => first | (go_simp; done) | (go_simp; rfl)); intro gb331 hg w18 hbox hb; have n0_ := am (blk_below (g := gb325) (o := .cells #[.int .u64 a0_0, .int .u64 a0_1] 24 (0, 0)) (by (with_reducible repeat (first | refine blk_drewN ?_ _ | refine blk_drew ?_ | refine blk_alloc ?_ _)); refine blk_far ?_ NB325_330.out _; (with_reducible repeat (first | refine blk_drewN ?_ _ | refine blk_drew ?_ | refine blk_alloc ?_ _)); refine blk_far ?_ NB325_330.out _; (with_reducible repeat (first | refine blk_drewN ?_ _ | refine blk_drew ?_ | refine blk_alloc ?_ _)); exact BK325.out) hb); have n1_ := am (blk_below (g := gb326) (o := .cells #[.int .u64 a1_0, .int .u64 a1_1] 24 (0, 0)) (by (with_reducible repeat (first | refine blk_drewN ?_ _ | refine blk_drew ?_ | refine blk_alloc ?_ _)); refine blk_far ?_ NB326_330.out _; (with_reducible repeat (first | refine blk_drewN ?_ _ | refine blk_drew ?_ | refine blk_alloc ?_ _)); refine blk_far ?_ NB326_330.out _; (with_reducible repeat (first | refine blk_drewN ?_ _ | refine blk_drew ?_ | refine blk_alloc ?_ _)); exact BK326.out) hb); have n2_ := am (blk_below (g := gb327) (o := .cells #[.int .u64 0, .int .u64 0] 24 (0, 0)) (by (with_reducible repeat (first | refine blk_drewN ?_ _ | refine blk_drew ?_ | refine blk_alloc ?_ _)); refine blk_far ?_ NB327_330.out _; (with_reducible repeat (first | refine blk_drewN ?_ _ | refine blk_drew ?_ | refine blk_alloc ?_ _)); refine blk_far ?_ NB327_330.out _; (with_reducible repeat (first | refine blk_drewN ?_ _ | refine blk_drew ?_ | refine blk_alloc ?_ _)); exact BK327.out) hb); have n3_ := am (blk_below (g := gb330) (o := .cells #[.int .u64 t328, .int .u64 t329] 24 (0, 0)) (by (with_reducible repeat (first | refine blk_drewN ?_ _ | refine blk_drew ?_ | refine blk_alloc ?_ _)); refine blk_put (cs := #[.int .u64 t328, .int .u64 0]) ?_ 1 _ rfl; (with_reducible repeat (first | refine blk_drewN ?_ _ | refine blk_drew ?_ | refine blk_alloc ?_ _)); refine blk_put (cs := #[.int .u64 0, .int .u64 0]) ?_ 0 _ rfl; (with_reducible repeat (first | refine blk_drewN ?_ _ | refine blk_drew ?_ | refine blk_alloc ?_ _)); exact BK330.out) hb); have n4_ := am (below_step (by repeat (first | exact HB.out | refine below_set ?_ GE325.out | refine below_set ?_ GE326.out | refine below_set ?_ GE327.out | refine below_set ?_ GE330.out)) hb); have n5_ := am (hbox); have n6_ := am ((by rw [hg]; exact (below_size (by repeat (first | exact HB.out | refine below_set ?_ GE325.out | refine below_set ?_ GE326.out | refine below_set ?_ GE327.out | refine below_set ?_ GE330.out))) : w.heap.size ≤ gb331)); have n7_ := am ((by rw [hg]; exact (below_size (by repeat (first | exact HB.out | refine below_set ?_ GE325.out | refine below_set ?_ GE326.out | refine below_set ?_ GE327.out | refine below_set ?_ GE330.out))) : w.heap.size ≤ gb331)); have n8_ := am ((by rw [hg]; exact Nat.ne_of_lt (blk_lt (g := gb325) (o := .cells #[.int .u64 a0_0, .int .u64 a0_1] 24 (0, 0)) (by (with_reducible repeat (first | refine blk_drewN ?_ _ | refine blk_drew ?_ | refine blk_alloc ?_ _)); refine blk_far ?_ NB325_330.out _; (with_reducible repeat (first | refine blk_drewN ?_ _ | refine blk_drew ?_ | refine blk_alloc ?_ _)); refine blk_far ?_ NB325_330.out _; (with_reducible repeat (first | refine blk_drewN ?_ _ | refine blk_drew ?_ | refine blk_alloc ?_ _)); exact BK325.out)) : gb325 ≠ gb331)); have n9_ := am ((by rw [hg]; exact Nat.ne_of_gt (blk_lt (g := gb325) (o := .cells #[.int .u64 a0_0, .int .u64 a0_1] 24 (0, 0)) (by (with_reducible repeat (first | refine blk_drewN ?_ _ | refine blk_drew ?_ | refine blk_alloc ?_ _)); refine blk_far ?_ NB325_330.out _; (with_reducible repeat (first | refine blk_drewN ?_ _ | refine blk_drew ?_ | refine blk_alloc ?_ _)); refine blk_far ?_ NB325_330.out _; (with_reducible repeat (first | refine blk_drewN ?_ _ | refine blk_drew ?_ | refine blk_alloc ?_ _)); exact BK325.out)) : gb331 ≠ gb325)); have n10_ := am ((by rw [hg]; exact Nat.ne_of_lt (blk_lt (g := gb326) (o := .cells #[.int .u64 a1_0, .int .u64 a1_1] 24 (0, 0)) (by (with_reducible repeat (first | refine blk_drewN ?_ _ | refine blk_drew ?_ | refine blk_alloc ?_ _)); refine blk_far ?_ NB326_330.out _; (with_reducible repeat (first | refine blk_drewN ?_ _ | refine blk_drew ?_ | refine blk_alloc ?_ _)); refine blk_far ?_ NB326_330.out _; (with_reducible repeat (first | refine blk_drewN ?_ _ | refine blk_drew ?_ | refine blk_alloc ?_ _)); exact BK326.out)) : gb326 ≠ gb331)); have n11_ := am ((by rw [hg]; exact Nat.ne_of_gt (blk_lt (g := gb326) (o := .cells #[.int .u64 a1_0, .int .u64 a1_1] 24 (0, 0)) (by (with_reducible repeat (first | refine blk_drewN ?_ _ | refine blk_drew ?_ | refine blk_alloc ?_ _)); refine blk_far ?_ NB326_330.out _; (with_reducible repeat (first | refine blk_drewN ?_ _ | refine blk_drew ?_ | refine blk_alloc ?_ _)); refine blk_far ?_ NB326_330.out _; (with_reducible repeat (first | refine blk_drewN ?_ _ | refine blk_drew ?_ | refine blk_alloc ?_ _)); exact BK326.out)) : gb331 ≠ gb326)); have n12_ := am ((by rw [hg]; exact Nat.ne_of_lt (blk_lt (g := gb327) (o := .cells #[.int .u64 0, .int .u64 0] 24 (0, 0)) (by (with_reducible repeat (first | refine blk_drewN ?_ _ | refine blk_drew ?_ | refine blk_alloc ?_ _)); refine blk_far ?_ NB327_330.out _; (with_reducible repeat (first | refine blk_drewN ?_ _ | refine blk_drew ?_ | refine blk_alloc ?_ _)); refine blk_far ?_ NB327_330.out _; (with_reducible repeat (first | refine blk_drewN ?_ _ | refine blk_drew ?_ | refine blk_alloc ?_ _)); exact BK327.out)) : gb327 ≠ gb331)); have n13_ := am ((by rw [hg]; exact Nat.ne_of_gt (blk_lt (g := gb327) (o := .cells #[.int .u64 0, .int .u64 0] 24 (0, 0)) (by (with_reducible repeat (first | refine blk_drewN ?_ _ | refine blk_drew ?_ | refine blk_alloc ?_ _)); refine blk_far ?_ NB327_330.out _; (with_reducible repeat (first | refine blk_drewN ?_ _ | refine blk_drew ?_ | refine blk_alloc ?_ _)); refine blk_far ?_ NB327_330.out _; (with_reducible repeat (first | refine blk_drewN ?_ _ | refine blk_drew ?_ | refine blk_alloc ?_ _)); exact BK327.out)) : gb331 ≠ gb327)); have n14_ := am ((by rw [hg]; exact Nat.ne_of_lt (blk_lt (g := gb330) (o := .cells #[.int .u64 t328, .int .u64 t329] 24 (0, 0)) (by (with_reducible repeat (first | refine blk_drewN ?_ _ | refine blk_drew ?_ | refine blk_alloc ?_ _)); refine blk_put (cs := #[.int .u64 t328, .int .u64 0]) ?_ 1 _ rfl; (with_reducible repeat (first | refine blk_drewN ?_ _ | refine blk_drew ?_ | refine blk_alloc ?_ _)); refine blk_put (cs := #[.int .u64 0, .int .u64 0]) ?_ 0 _ rfl; (with_reducible repeat (first | refine blk_drewN ?_ _ | refine blk_drew ?_ | refine blk_alloc ?_ _)); exact BK330.out)) : gb330 ≠ gb331)); have n15_ := am ((by rw [hg]; exact Nat.ne_of_gt (blk_lt (g := gb330) (o := .cells #[.int .u64 t328, .int .u64 t329] 24 (0, 0)) (by (with_reducible repeat (first | refine blk_drewN ?_ _ | refine blk_drew ?_ | refine blk_alloc ?_ _)); refine blk_put (cs := #[.int .u64 t328, .int .u64 0]) ?_ 1 _ rfl; (with_reducible repeat (first | refine blk_drewN ?_ _ | refine blk_drew ?_ | refine blk_alloc ?_ _)); refine blk_put (cs := #[.int .u64 0, .int .u64 0]) ?_ 0 _ rfl; (with_reducible repeat (first | refine blk_drewN ?_ _ | refine blk_drew ?_ | refine blk_alloc ?_ _)); exact BK330.out)) : gb331 ≠ gb330)); clear BK325; clear BK326; clear BK327; clear BK330; clear HB; have BK325 := n0_; have BK326 := n1_; have BK327 := n2_; have BK330 := n3_; have HB := n4_; have BK331 := n5_; have GW331 := n6_; have GE331 := n7_; have NB325_331 := n8_; have NB331_325 := n9_; have NB326_331 := n10_; have NB331_326 := n11_; have NB327_331 := n12_; have NB331_327 := n13_; have NB330_331 := n14_; have NB331_330 := n15_; clear n0_ n1_ n2_ n3_ n4_ n5_ n6_ n7_ n8_ n9_ n10_ n11_ n12_ n13_ n14_ n15_; clear hb hbox hg))
 go_step3
 go_wp2_with (fail)
 (try simp only [Act.put, List.setIfInBounds_toArray, List.set_cons_succ, List.set_cons_zero])
 go_loopg [] k (fun kq w' => ∃ (x326000_1 : Int) (x326001_1 : Int) (x327000_1 : Int) (x327001_1 : Int) (x332000_1 : Int) (x332001_1 : Int), Aside0 (tnum_Mul.l0 kq x326000_1 x326001_1 x327000_1 x327001_1 t328 t329 x332000_1 x332001_1 = some (r1, r2)) ∧ Aside0 (kq ≤ k) ∧ Aside0 (w'.heap[gb325]? = some (.cells #[.int .u64 x326000_1, .int .u64 x326001_1] 24 (0, 0))) ∧ Aside0 (w'.heap[gb326]? = some (.cells #[.int .u64 x327000_1, .int .u64 x327001_1] 24 (0, 0))) ∧ Aside0 (w'.heap[gb327]? = some (.cells #[.int .u64 0, .int .u64 0] 24 (0, 0))) ∧ Aside0 (w'.heap[gb330]? = some (.cells #[.int .u64 t328, .int .u64 t329] 24 (0, 0))) ∧ Aside0 (w'.heap[gb331]? = some (.cells #[.int .u64 x332000_1, .int .u64 x332001_1] 24 (0, 0))) ∧ Aside0 (Below w.heap.size w w'))
 case atStart => exact ⟨(a0_0), (a0_1), (a1_0), (a1_1), (0), (0), H', ⟨Nat.le_refl _⟩, ⟨by (with_reducible repeat (first | refine blk_drewN ?_ _ | refine blk_drew ?_ | refine blk_alloc ?_ _)); exact BK325.out⟩, ⟨by (with_reducible repeat (first | refine blk_drewN ?_ _ | refine blk_drew ?_ | refine blk_alloc ?_ _)); exact BK326.out⟩, ⟨by (with_reducible repeat (first | refine blk_drewN ?_ _ | refine blk_drew ?_ | refine blk_alloc ?_ _)); exact BK327.out⟩, ⟨by (with_reducible repeat (first | refine blk_drewN ?_ _ | refine blk_drew ?_ | refine blk_alloc ?_ _)); exact BK330.out⟩, ⟨by (with_reducible repeat (first | refine blk_drewN ?_ _ | refine blk_drew ?_ | refine blk_alloc ?_ _)); exact BK331.out⟩, ⟨by repeat (first | (with_reducible first | exact HB.out | apply below_alloc | apply pw_below_drewN | apply below_drew1 | refine below_set ?_ GE325.out | refine below_set ?_ GE326.out | refine below_set ?_ GE327.out | refine below_set ?_ GE330.out | refine below_set ?_ GE331.out) | exact HB.out)⟩⟩
 case round =>
  clear H'
  try clear c1
  try clear p2
  try clear c3
  try clear c7
  try clear c8
  try clear c10
  try clear c14
  try clear c15
  try clear c16
  try clear c17
  try clear hcz11_0
  try clear hcz11_1
  try clear hcz17_0
  try clear hcz17_1
  try clear hcz9_0
  try clear hcz9_1
  try clear hfz11_0
  try clear hfz11_1
  try clear hfz17_0
  try clear hfz17_1
  try clear hfz9_0
  try clear hfz9_1
  obtain ⟨x326000_1, x326001_1, x327000_1, x327001_1, x332000_1, x332001_1, HA, HK1, BK325, BK326, BK327, BK330, BK331, HB⟩ := hrel
  cases gk with
  | zero => exact absurd HA.out (by simp [tnum_Mul.l0])
  | succ k1 =>
   have H := HA.out
   clear HA
   simp only [tnum_Mul.l0] at H
   by_cases c19 : (!(x326000_1 == 0) || (!(x326001_1 == 0))) = true
   ·rw [if_pos c19] at H
    have c19b0 : (!(x326000_1 == 0) || (!(x326001_1 == 0))) = true := c19
    clear c19
    have HC20 := am H
    clear H
    have hnb21 := NB325_326.out
    have hnc21 := NB326_325.out
    have hnb22 := NB325_327.out
    have hnc22 := NB327_325.out
    have hnb23 := NB325_330.out
    have hnc23 := NB330_325.out
    have hnb24 := NB325_331.out
    have hnc24 := NB331_325.out
    have hcz25_0 : wr.cell? ⟨gb325, 0, none⟩ = some (.int .u64 x326000_1) := (blk_cell BK325.out 0).trans rfl
    have hcz25_1 : wr.cell? ⟨gb325, 1, none⟩ = some (.int .u64 x326001_1) := (blk_cell BK325.out 1).trans rfl
    have hfz25_0 := blk_frozen BK325.out 0
    have hfz25_1 := blk_frozen BK325.out 1
    go_upto_block 2 with (fail)
    go_cut [] (fun wc => ∃ (kq : Nat) (x332000_19 : Int) (x332001_19 : Int), Aside0 (tnum_Mul.j1 kq x326000_1 x326001_1 x327000_1 x327001_1 t328 t329 x332000_19 x332001_19 = some (r1, r2)) ∧ Aside0 (kq ≤ k1) ∧ Aside0 (wc.heap[gb325]? = some (.cells #[.int .u64 x326000_1, .int .u64 x326001_1] 24 (0, 0))) ∧ Aside0 (wc.heap[gb326]? = some (.cells #[.int .u64 x327000_1, .int .u64 x327001_1] 24 (0, 0))) ∧ Aside0 (wc.heap[gb327]? = some (.cells #[.int .u64 0, .int .u64 0] 24 (0, 0))) ∧ Aside0 (wc.heap[gb330]? = some (.cells #[.int .u64 t328, .int .u64 t329] 24 (0, 0))) ∧ Aside0 (wc.heap[gb331]? = some (.cells #[.int .u64 x332000_19, .int .u64 x332001_19] 24 (0, 0))) ∧ Aside0 (Below w.heap.size w wc))
    case first =>
     have H := HC20.out
     clear HC20
     by_cases c26 : (Go.bits .and .u64 x326000_1 1) = 1
     ·rw [if_pos c26] at H
      have c26b0 : ((Go.bits .and .u64 x326000_1 1) == 1) = true := beq_iff_eq.mpr c26
      have c26b1 : ((Go.bits .and .u64 x326000_1 1) != 1) = false := bne_eq_false_iff_eq.mpr c26
      clear c26
      (first | rw [c26b0] | (simp only [i64_w, i32_w]; rw [c26b0]) | skip)
      replace H := Option.bind_eq_some_iff.mp H
      obtain ⟨⟨t334, t335⟩, A270, H⟩ := H
      replace H : (tnum_Mul.j1 k1 x326000_1 x326001_1 x327000_1 x327001_1 t328 t329 t334 t335) = some (r1, r2) := H
      have A27 := am A270
      clear A270
      have H' := am H
      clear H
      have hnb28 := NB325_326.out
      have hnc28 := NB326_325.out
      have hnb29 := NB325_327.out
      have hnc29 := NB327_325.out
      have hnb30 := NB325_330.out
      have hnc30 := NB330_325.out
      have hnb31 := NB325_331.out
      have hnc31 := NB331_325.out
      have hcz32_0 : wr.cell? ⟨gb325, 0, none⟩ = some (.int .u64 x326000_1) := (blk_cell BK325.out 0).trans rfl
      have hcz32_1 : wr.cell? ⟨gb325, 1, none⟩ = some (.int .u64 x326001_1) := (blk_cell BK325.out 1).trans rfl
      have hfz32_0 := blk_frozen BK325.out 0
      have hfz32_1 := blk_frozen BK325.out 1
      have hnb33 := NB331_326.out
      have hnc33 := NB326_331.out
      have hnb34 := NB331_327.out
      have hnc34 := NB327_331.out
      have hnb35 := NB331_330.out
      have hnc35 := NB330_331.out
      have hcz36_0 : wr.cell? ⟨gb331, 0, none⟩ = some (.int .u64 x332000_1) := (blk_cell BK331.out 0).trans rfl
      have hcz36_1 : wr.cell? ⟨gb331, 1, none⟩ = some (.int .u64 x332001_1) := (blk_cell BK331.out 1).trans rfl
      have hfz36_0 := blk_frozen BK331.out 0
      have hfz36_1 := blk_frozen BK331.out 1
      have hnb37 := NB326_327.out
      have hnc37 := NB327_326.out
      have hnb38 := NB326_330.out
      have hnc38 := NB330_326.out
      have hcz39_0 : wr.cell? ⟨gb326, 0, none⟩ = some (.int .u64 x327000_1) := (blk_cell BK326.out 0).trans rfl
      have hcz39_1 : wr.cell? ⟨gb326, 1, none⟩ = some (.int .u64 x327001_1) := (blk_cell BK326.out 1).trans rfl
      have hfz39_0 := blk_frozen BK326.out 0
      have hfz39_1 := blk_frozen BK326.out 1
      go_wp2_with (first | ((with_reducible refine gate_callee (f := 29) rfl ?_); refine goesL_ (some 25) rfl rfl Try.func29 (by kernel_rfl) rfl #[.agg #[.int .u64 x332000_1, .int .u64 x332001_1], .agg #[.int .u64 0, .int .u64 x327001_1]] rfl (by (try simp only [List.map_toArray, List.map_cons, List.map_nil]); first | done | rfl) ?_; (with_reducible refine (tnum_Add.calls x332000_1 x332001_1 0 x327001_1 t334 t335 _ A27.out).mono ?_); rintro e w40 ⟨rfl, hb⟩; refine ⟨_, rfl, ?_⟩; have n0_ := am (blk_below BK325.out hb); have n1_ := am (blk_below BK326.out hb); have n2_ := am (blk_below BK327.out hb); have n3_ := am (blk_below BK330.out hb); have n4_ := am (blk_below BK331.out hb); have n5_ := am (below_step (by repeat (first | exact HB.out | refine below_set ?_ GE325.out | refine below_set ?_ GE326.out | refine below_set ?_ GE327.out | refine below_set ?_ GE330.out | refine below_set ?_ GE331.out)) hb); clear BK325; clear BK326; clear BK327; clear BK330; clear BK331; clear HB; have BK325 := n0_; have BK326 := n1_; have BK327 := n2_; have BK330 := n3_; have BK331 := n4_; have HB := n5_; clear n0_ n1_ n2_ n3_ n4_ n5_; (try clear hb); (try clear hb2); (try clear hk); (try clear hi); have hcz41_0 : w40.cell? ⟨gb331, 0, none⟩ = some (.int .u64 x332000_1) := (blk_cell BK331.out 0).trans rfl; have hcz41_1 : w40.cell? ⟨gb331, 1, none⟩ = some (.int .u64 x332001_1) := (blk_cell BK331.out 1).trans rfl; have hfz41_0 := blk_frozen BK331.out 0; have hfz41_1 := blk_frozen BK331.out 1))
      go_meet
      case rel => exact ⟨_, (t334), (t335), H', ⟨by have := HK1.out; first | omega | exact Nat.le_refl _⟩, ⟨by (with_reducible repeat (first | refine blk_drewN ?_ _ | refine blk_drew ?_ | refine blk_alloc ?_ _)); refine blk_far ?_ NB325_331.out _; (with_reducible repeat (first | refine blk_drewN ?_ _ | refine blk_drew ?_ | refine blk_alloc ?_ _)); refine blk_far ?_ NB325_331.out _; (with_reducible repeat (first | refine blk_drewN ?_ _ | refine blk_drew ?_ | refine blk_alloc ?_ _)); exact BK325.out⟩, ⟨by (with_reducible repeat (first | refine blk_drewN ?_ _ | refine blk_drew ?_ | refine blk_alloc ?_ _)); refine blk_far ?_ NB326_331.out _; (with_reducible repeat (first | refine blk_drewN ?_ _ | refine blk_drew ?_ | refine blk_alloc ?_ _)); refine blk_far ?_ NB326_331.out _; (with_reducible repeat (first | refine blk_drewN ?_ _ | refine blk_drew ?_ | refine blk_alloc ?_ _)); exact BK326.out⟩, ⟨by (with_reducible repeat (first | refine blk_drewN ?_ _ | refine blk_drew ?_ | refine blk_alloc ?_ _)); refine blk_far ?_ NB327_331.out _; (with_reducible repeat (first | refine blk_drewN ?_ _ | refine blk_drew ?_ | refine blk_alloc ?_ _)); refine blk_far ?_ NB327_331.out _; (with_reducible repeat (first | refine blk_drewN ?_ _ | refine blk_drew ?_ | refine blk_alloc ?_ _)); exact BK327.out⟩, ⟨by (with_reducible repeat (first | refine blk_drewN ?_ _ | refine blk_drew ?_ | refine blk_alloc ?_ _)); refine blk_far ?_ NB330_331.out _; (with_reducible repeat (first | refine blk_drewN ?_ _ | refine blk_drew ?_ | refine blk_alloc ?_ _)); refine blk_far ?_ NB330_331.out _; (with_reducible repeat (first | refine blk_drewN ?_ _ | refine blk_drew ?_ | refine blk_alloc ?_ _)); exact BK330.out⟩, ⟨by (with_reducible repeat (first | refine blk_drewN ?_ _ | refine blk_drew ?_ | refine blk_alloc ?_ _)); refine blk_put (cs := #[.int .u64 t334, .int .u64 x332001_1]) ?_ 1 _ rfl; (with_reducible repeat (first | refine blk_drewN ?_ _ | refine blk_drew ?_ | refine blk_alloc ?_ _)); refine blk_put (cs := #[.int .u64 x332000_1, .int .u64 x332001_1]) ?_ 0 _ rfl; (with_reducible repeat (first | refine blk_drewN ?_ _ | refine blk_drew ?_ | refine blk_alloc ?_ _)); exact BK331.out⟩, ⟨by repeat (first | (with_reducible first | exact HB.out | apply below_alloc | apply pw_below_drewN | apply below_drew1 | refine below_set ?_ GE325.out | refine below_set ?_ GE326.out | refine below_set ?_ GE327.out | refine below_set ?_ GE330.out | refine below_set ?_ GE331.out) | exact HB.out)⟩⟩
     ·rw [if_neg c26] at H
      have c26b0 : ((Go.bits .and .u64 x326000_1 1) == 1) = false := beq_eq_false_iff_ne.mpr c26
      have c26b1 : ((Go.bits .and .u64 x326000_1 1) != 1) = true := bne_iff_ne.mpr c26
      (first | rw [c26b0] | (simp only [i64_w, i32_w]; rw [c26b0]) | skip)
      by_cases c42 : (Go.bits .and .u64 x326001_1 1) = 1
      ·rw [if_pos c42] at H
       have c42b0 : ((Go.bits .and .u64 x326001_1 1) == 1) = true := beq_iff_eq.mpr c42
       have c42b1 : ((Go.bits .and .u64 x326001_1 1) != 1) = false := bne_eq_false_iff_eq.mpr c42
       clear c42
       replace H := Option.bind_eq_some_iff.mp H
       obtain ⟨⟨t336, t337⟩, A430, H⟩ := H
       replace H : (tnum_Mul.j1 k1 x326000_1 x326001_1 x327000_1 x327001_1 t328 t329 t336 t337) = some (r1, r2) := H
       have A43 := am A430
       clear A430
       have H' := am H
       clear H
       have hnb44 := NB325_326.out
       have hnc44 := NB326_325.out
       have hnb45 := NB325_327.out
       have hnc45 := NB327_325.out
       have hnb46 := NB325_330.out
       have hnc46 := NB330_325.out
       have hnb47 := NB325_331.out
       have hnc47 := NB331_325.out
       have hcz48_0 : wr.cell? ⟨gb325, 0, none⟩ = some (.int .u64 x326000_1) := (blk_cell BK325.out 0).trans rfl
       have hcz48_1 : wr.cell? ⟨gb325, 1, none⟩ = some (.int .u64 x326001_1) := (blk_cell BK325.out 1).trans rfl
       have hfz48_0 := blk_frozen BK325.out 0
       have hfz48_1 := blk_frozen BK325.out 1
       have hnb49 := NB331_326.out
       have hnc49 := NB326_331.out
       have hnb50 := NB331_327.out
       have hnc50 := NB327_331.out
       have hnb51 := NB331_330.out
       have hnc51 := NB330_331.out
       have hcz52_0 : wr.cell? ⟨gb331, 0, none⟩ = some (.int .u64 x332000_1) := (blk_cell BK331.out 0).trans rfl
       have hcz52_1 : wr.cell? ⟨gb331, 1, none⟩ = some (.int .u64 x332001_1) := (blk_cell BK331.out 1).trans rfl
       have hfz52_0 := blk_frozen BK331.out 0
       have hfz52_1 := blk_frozen BK331.out 1
       have hnb53 := NB326_327.out
       have hnc53 := NB327_326.out
       have hnb54 := NB326_330.out
       have hnc54 := NB330_326.out
       have hcz55_0 : wr.cell? ⟨gb326, 0, none⟩ = some (.int .u64 x327000_1) := (blk_cell BK326.out 0).trans rfl
       have hcz55_1 : wr.cell? ⟨gb326, 1, none⟩ = some (.int .u64 x327001_1) := (blk_cell BK326.out 1).trans rfl
       have hfz55_0 := blk_frozen BK326.out 0
       have hfz55_1 := blk_frozen BK326.out 1
       go_wp2_with (first | ((with_reducible refine gate_callee (f := 29) rfl ?_); refine goesL_ (some 38) rfl rfl Try.func29 (by kernel_rfl) rfl #[.agg #[.int .u64 x332000_1, .int .u64 x332001_1], .agg #[.int .u64 0, .int .u64 (Go.bits .or .u64 x327000_1 x327001_1)]] rfl (by (try simp only [List.map_toArray, List.map_cons, List.map_nil]); first | done | rfl) ?_; (with_reducible refine (tnum_Add.calls x332000_1 x332001_1 0 (Go.bits .or .u64 x327000_1 x327001_1) t336 t337 _ A43.out).mono ?_); rintro e w56 ⟨rfl, hb⟩; refine ⟨_, rfl, ?_⟩; have n0_ := am (blk_below BK325.out hb); have n1_ := am (blk_below BK326.out hb); have n2_ := am (blk_below BK327.out hb); have n3_ := am (blk_below BK330.out hb); have n4_ := am (blk_below BK331.out hb); have n5_ := am (below_step (by repeat (first | exact HB.out | refine below_set ?_ GE325.out | refine below_set ?_ GE326.out | refine below_set ?_ GE327.out | refine below_set ?_ GE330.out | refine below_set ?_ GE331.out)) hb); clear BK325; clear BK326; clear BK327; clear BK330; clear BK331; clear HB; have BK325 := n0_; have BK326 := n1_; have BK327 := n2_; have BK330 := n3_; have BK331 := n4_; have HB := n5_; clear n0_ n1_ n2_ n3_ n4_ n5_; (try clear hb); (try clear hb2); (try clear hk); (try clear hi); have hcz57_0 : w56.cell? ⟨gb331, 0, none⟩ = some (.int .u64 x332000_1) := (blk_cell BK331.out 0).trans rfl; have hcz57_1 : w56.cell? ⟨gb331, 1, none⟩ = some (.int .u64 x332001_1) := (blk_cell BK331.out 1).trans rfl; have hfz57_0 := blk_frozen BK331.out 0; have hfz57_1 := blk_frozen BK331.out 1))
       go_meet
       case rel => exact ⟨_, (t336), (t337), H', ⟨by have := HK1.out; first | omega | exact Nat.le_refl _⟩, ⟨by (with_reducible repeat (first | refine blk_drewN ?_ _ | refine blk_drew ?_ | refine blk_alloc ?_ _)); refine blk_far ?_ NB325_331.out _; (with_reducible repeat (first | refine blk_drewN ?_ _ | refine blk_drew ?_ | refine blk_alloc ?_ _)); refine blk_far ?_ NB325_331.out _; (with_reducible repeat (first | refine blk_drewN ?_ _ | refine blk_drew ?_ | refine blk_alloc ?_ _)); exact BK325.out⟩, ⟨by (with_reducible repeat (first | refine blk_drewN ?_ _ | refine blk_drew ?_ | refine blk_alloc ?_ _)); refine blk_far ?_ NB326_331.out _; (with_reducible repeat (first | refine blk_drewN ?_ _ | refine blk_drew ?_ | refine blk_alloc ?_ _)); refine blk_far ?_ NB326_331.out _; (with_reducible repeat (first | refine blk_drewN ?_ _ | refine blk_drew ?_ | refine blk_alloc ?_ _)); exact BK326.out⟩, ⟨by (with_reducible repeat (first | refine blk_drewN ?_ _ | refine blk_drew ?_ | refine blk_alloc ?_ _)); refine blk_far ?_ NB327_331.out _; (with_reducible repeat (first | refine blk_drewN ?_ _ | refine blk_drew ?_ | refine blk_alloc ?_ _)); refine blk_far ?_ NB327_331.out _; (with_reducible repeat (first | refine blk_drewN ?_ _ | refine blk_drew ?_ | refine blk_alloc ?_ _)); exact BK327.out⟩, ⟨by (with_reducible repeat (first | refine blk_drewN ?_ _ | refine blk_drew ?_ | refine blk_alloc ?_ _)); refine blk_far ?_ NB330_331.out _; (with_reducible repeat (first | refine blk_drewN ?_ _ | refine blk_drew ?_ | refine blk_alloc ?_ _)); refine blk_far ?_ NB330_331.out _; (with_reducible repeat (first | refine blk_drewN ?_ _ | refine blk_drew ?_ | refine blk_alloc ?_ _)); exact BK330.out⟩, ⟨by (with_reducible repeat (first | refine blk_drewN ?_ _ | refine blk_drew ?_ | refine blk_alloc ?_ _)); refine blk_put (cs := #[.int .u64 t336, .int .u64 x332001_1]) ?_ 1 _ rfl; (with_reducible repeat (first | refine blk_drewN ?_ _ | refine blk_drew ?_ | refine blk_alloc ?_ _)); refine blk_put (cs := #[.int .u64 x332000_1, .int .u64 x332001_1]) ?_ 0 _ rfl; (with_reducible repeat (first | refine blk_drewN ?_ _ | refine blk_drew ?_ | refine blk_alloc ?_ _)); exact BK331.out⟩, ⟨by repeat (first | (with_reducible first | exact HB.out | apply below_alloc | apply pw_below_drewN | apply below_drew1 | refine below_set ?_ GE325.out | refine below_set ?_ GE326.out | refine below_set ?_ GE327.out | refine below_set ?_ GE330.out | refine below_set ?_ GE331.out) | exact HB.out)⟩⟩
      ·rw [if_neg c42] at H
       have c42b0 : ((Go.bits .and .u64 x326001_1 1) == 1) = false := beq_eq_false_iff_ne.mpr c42
       have c42b1 : ((Go.bits .and .u64 x326001_1 1) != 1) = true := bne_iff_ne.mpr c42
       have H' := am H
       clear H
       have hnb58 := NB325_326.out
       have hnc58 := NB326_325.out
       have hnb59 := NB325_327.out
       have hnc59 := NB327_325.out
       have hnb60 := NB325_330.out
       have hnc60 := NB330_325.out
       have hnb61 := NB325_331.out
       have hnc61 := NB331_325.out
       have hcz62_0 : wr.cell? ⟨gb325, 0, none⟩ = some (.int .u64 x326000_1) := (blk_cell BK325.out 0).trans rfl
       have hcz62_1 : wr.cell? ⟨gb325, 1, none⟩ = some (.int .u64 x326001_1) := (blk_cell BK325.out 1).trans rfl
       have hfz62_0 := blk_frozen BK325.out 0
       have hfz62_1 := blk_frozen BK325.out 1
       go_wp2
       go_meet
       case rel => exact ⟨_, (x332000_1), (x332001_1), H', ⟨by have := HK1.out; first | omega | exact Nat.le_refl _⟩, ⟨by (with_reducible repeat (first | refine blk_drewN ?_ _ | refine blk_drew ?_ | refine blk_alloc ?_ _)); exact BK325.out⟩, ⟨by (with_reducible repeat (first | refine blk_drewN ?_ _ | refine blk_drew ?_ | refine blk_alloc ?_ _)); exact BK326.out⟩, ⟨by (with_reducible repeat (first | refine blk_drewN ?_ _ | refine blk_drew ?_ | refine blk_alloc ?_ _)); exact BK327.out⟩, ⟨by (with_reducible repeat (first | refine blk_drewN ?_ _ | refine blk_drew ?_ | refine blk_alloc ?_ _)); exact BK330.out⟩, ⟨by (with_reducible repeat (first | refine blk_drewN ?_ _ | refine blk_drew ?_ | refine blk_alloc ?_ _)); exact BK331.out⟩, ⟨by repeat (first | (with_reducible first | exact HB.out | apply below_alloc | apply pw_below_drewN | apply below_drew1 | refine below_set ?_ GE325.out | refine below_set ?_ GE326.out | refine below_set ?_ GE327.out | refine below_set ?_ GE330.out | refine below_set ?_ GE331.out) | exact HB.out)⟩⟩
    case rest =>
     clear HC20
     try clear c1
     try clear c2
     try clear p2
     try clear c3
     try clear c4
     try clear c5
     try clear c6
     try clear c7
     try clear c8
     try clear c10
     try clear c14
     try clear c15
     try clear c16
     try clear c17
     try clear c19
     try clear c19b0
     try clear c21
     try clear c22
     try clear c23
     try clear c24
     try clear c26
     try clear c26b0
     try clear c26b1
     try clear c28
     try clear c29
     try clear c30
     try clear c31
     try clear c33
     try clear c34
     try clear c35
     try clear c37
     try clear c38
     try clear c42
     try clear c42b0
     try clear c42b1
     try clear c44
     try clear c45
     try clear c46
     try clear c47
     try clear c49
     try clear c50
     try clear c51
     try clear c53
     try clear c54
     try clear c58
     try clear c59
     try clear c60
     try clear c61
     try clear hcz11_0
     try clear hcz11_1
     try clear hcz17_0
     try clear hcz17_1
     try clear hcz25_0
     try clear hcz25_1
     try clear hcz32_0
     try clear hcz32_1
     try clear hcz36_0
     try clear hcz36_1
     try clear hcz39_0
     try clear hcz39_1
     try clear hcz41_0
     try clear hcz41_1
     try clear hcz48_0
     try clear hcz48_1
     try clear hcz52_0
     try clear hcz52_1
     try clear hcz55_0
     try clear hcz55_1
     try clear hcz57_0
     try clear hcz57_1
     try clear hcz62_0
     try clear hcz62_1
     try clear hcz9_0
     try clear hcz9_1
     try clear hfz11_0
     try clear hfz11_1
     try clear hfz17_0
     try clear hfz17_1
     try clear hfz25_0
     try clear hfz25_1
     try clear hfz32_0
     try clear hfz32_1
     try clear hfz36_0
     try clear hfz36_1
     try clear hfz39_0
     try clear hfz39_1
     try clear hfz41_0
     try clear hfz41_1
     try clear hfz48_0
     try clear hfz48_1
     try clear hfz52_0
     try clear hfz52_1
     try clear hfz55_0
     try clear hfz55_1
     try clear hfz57_0
     try clear hfz57_1
     try clear hfz62_0
     try clear hfz62_1
     try clear hfz9_0
     try clear hfz9_1
     try clear p2
     obtain ⟨kq, x332000_19, x332001_19, HA, HJ19, BK325, BK326, BK327, BK330, BK331, HB⟩ := hcut
     cases kq with
     | zero => exact absurd HA.out (by simp [tnum_Mul.j1])
     | succ kj19 =>
      have H := HA.out
      clear HA
      simp only [tnum_Mul.j1] at H
      replace H := Option.bind_eq_some_iff.mp H
      obtain ⟨⟨t338, t339⟩, A630, H⟩ := H
      replace H : ((tnum_Shl.f x327000_1 x327001_1 1).bind fun bt340 => (if (bt340.1 == 0 && (bt340.2 == 0)) = true then ((tnum_Add.f x332000_19 x332001_19 t328 t329).bind fun bt342 => (some (bt342.1, bt342.2))) else (tnum_Mul.l0 kj19 t338 t339 bt340.1 bt340.2 t328 t329 x332000_19 x332001_19))) = some (r1, r2) := H
      have A63 := am A630
      clear A630
      replace H := Option.bind_eq_some_iff.mp H
      obtain ⟨⟨t340, t341⟩, A640, H⟩ := H
      replace H : (if (t340 == 0 && (t341 == 0)) = true then ((tnum_Add.f x332000_19 x332001_19 t328 t329).bind fun bt342 => (some (bt342.1, bt342.2))) else (tnum_Mul.l0 kj19 t338 t339 t340 t341 t328 t329 x332000_19 x332001_19)) = some (r1, r2) := H
      have A64 := am A640
      clear A640
      by_cases c65 : (t340 == 0 && (t341 == 0)) = true
      ·rw [if_pos c65] at H
       have c65b0 : (t340 == 0 && (t341 == 0)) = true := c65
       (try (have c65b1 : decide (t340 = 0 && (t341 == 0)) = true := by simpa using c65))
       (try (have c65b2 : (t340 == 0 && (t341 == 0)) = true := by simpa using c65))
       clear c65
       replace H := Option.bind_eq_some_iff.mp H
       obtain ⟨⟨t342, t343⟩, A660, H⟩ := H
       replace H : (some (t342, t343)) = some (r1, r2) := H
       have A66 := am A660
       clear A660
       simp only [Option.some.injEq, Prod.mk.injEq] at H
       obtain ⟨rfl, rfl⟩ := H
       try go_wp2
       have n0_ := am (blk_drew BK325.out)
       have n1_ := am (blk_drew BK326.out)
       have n2_ := am (blk_drew BK327.out)
       have n3_ := am (blk_drew BK330.out)
       have n4_ := am (blk_drew BK331.out)
       have n5_ := am (below_drew1 HB.out)
       clear BK325
       clear BK326
       clear BK327
       clear BK330
       clear BK331
       clear HB
       have BK325 := n0_
       have BK326 := n1_
       have BK327 := n2_
       have BK330 := n3_
       have BK331 := n4_
       have HB := n5_
       clear n0_ n1_ n2_ n3_ n4_ n5_
       refine start_ (n := 6) (S := fun w' => w'.cell? ⟨gb325, 0, none⟩ = some (.int .u64 x326000_1) ∧ w'.cell? ⟨gb325, 1, none⟩ = some (.int .u64 x326001_1) ∧ w'.cell? ⟨gb326, 0, none⟩ = some (.int .u64 x327000_1) ∧ w'.cell? ⟨gb326, 1, none⟩ = some (.int .u64 x327001_1)) (ds := [4, 5]) (ar 6 0) (by kernel_rfl) rfl rfl ⟨(blk_cell BK325.out 0).trans rfl, (blk_cell BK325.out 1).trans rfl, (blk_cell BK326.out 0).trans rfl, (blk_cell BK326.out 1).trans rfl⟩ (fun hHeld => ?_)
       generalize wc.drew = w67 at BK325 BK326 BK327 BK330 BK331 HB hHeld ⊢
       refine take_ (i := 0) (N := some 39) (v := ?_) (a' := ?_) (ar 6 1) rfl rfl (by kernel_rfl) (fun _ _ _ h => h) (Or.inl ⟨by rfl, ?_⟩) hHeld ?_ ?_
       rotate_left
       ·rintro w' ⟨s0, s1, s2, s3⟩
        go_simp
        with_reducible rfl
       rotate_left
       ·simp only [Act.put, q1, q2, q3, i64_w, i32_w]
        rfl
       refine take_ (i := 2) (N := some 41) (v := ?_) (a' := ?_) (ar 6 5) rfl rfl (by kernel_rfl) (fun _ _ _ h => h) (Or.inl ⟨by rfl, ?_⟩) hHeld ?_ ?_
       rotate_left
       ·rintro w' ⟨s0, s1, s2, s3⟩
        go_simp
        with_reducible rfl
       rotate_left
       ·simp only [Act.put, q1, q2, q3, i64_w, i32_w]
        rfl
       refine one_ (i := 1) (N := some 40) (ar 6 7) rfl rfl (by kernel_rfl) (by decide) (fun K hK => ?_)
       refine goes_ Try.func25 (by kernel_rfl) rfl #[.agg #[.int .u64 x326000_1, .int .u64 x326001_1], .int .u64 1] (by rfl) rfl rfl (by (try simp only [List.map_toArray, List.map_cons, List.map_nil]); first | done | rfl) ?_
       with_reducible refine (tnum_Shr.calls x326000_1 x326001_1 1 t338 t339 _ A63.out).mono ?_
       rintro e w68 ⟨rfl, hb⟩
       refine ⟨_, rfl, ?_⟩
       have n0_ := am (blk_below BK325.out hb)
       have n1_ := am (blk_below BK326.out hb)
       have n2_ := am (blk_below BK327.out hb)
       have n3_ := am (blk_below BK330.out hb)
       have n4_ := am (blk_below BK331.out hb)
       have n5_ := am (below_step (by repeat (first | exact HB.out | refine below_set ?_ GE325.out | refine below_set ?_ GE326.out | refine below_set ?_ GE327.out | refine below_set ?_ GE330.out | refine below_set ?_ GE331.out)) hb)
       clear BK325
       clear BK326
       clear BK327
       clear BK330
       clear BK331
       clear HB
       have BK325 := n0_
       have BK326 := n1_
       have BK327 := n2_
       have BK330 := n3_
       have BK331 := n4_
       have HB := n5_
       clear n0_ n1_ n2_ n3_ n4_ n5_
       (try clear hb)
       (try clear hb2)
       (try clear hk)
       (try clear hi)
       refine hK.out _ _ ⟨(blk_cell BK325.out 0).trans rfl, (blk_cell BK325.out 1).trans rfl, (blk_cell BK326.out 0).trans rfl, (blk_cell BK326.out 1).trans rfl⟩ (fun hHeld => ?_)
       clear hK K
       refine norm_ (a' := ?_) ?_ ?_
       rotate_left
       ·show Act.put _ (some 40) _ = _
        simp only [Act.put, q1, q2, q3, i64_w, i32_w]
        rfl
       refine one_ (i := 3) (N := some 42) (ar 6 15) rfl rfl (by kernel_rfl) (by decide) (fun K hK => ?_)
       refine goes_ Try.func26 (by kernel_rfl) rfl #[.agg #[.int .u64 x327000_1, .int .u64 x327001_1], .int .u64 1] (by rfl) rfl rfl (by (try simp only [List.map_toArray, List.map_cons, List.map_nil]); first | done | rfl) ?_
       with_reducible refine (tnum_Shl.calls x327000_1 x327001_1 1 t340 t341 _ A64.out).mono ?_
       rintro e w69 ⟨rfl, hb⟩
       refine ⟨_, rfl, ?_⟩
       have n0_ := am (blk_below BK325.out hb)
       have n1_ := am (blk_below BK326.out hb)
       have n2_ := am (blk_below BK327.out hb)
       have n3_ := am (blk_below BK330.out hb)
       have n4_ := am (blk_below BK331.out hb)
       have n5_ := am (below_step (by repeat (first | exact HB.out | refine below_set ?_ GE325.out | refine below_set ?_ GE326.out | refine below_set ?_ GE327.out | refine below_set ?_ GE330.out | refine below_set ?_ GE331.out)) hb)
       clear BK325
       clear BK326
       clear BK327
       clear BK330
       clear BK331
       clear HB
       have BK325 := n0_
       have BK326 := n1_
       have BK327 := n2_
       have BK330 := n3_
       have BK331 := n4_
       have HB := n5_
       clear n0_ n1_ n2_ n3_ n4_ n5_
       (try clear hb)
       (try clear hb2)
       (try clear hk)
       (try clear hi)
       refine hK.out _ _ ⟨(blk_cell BK325.out 0).trans rfl, (blk_cell BK325.out 1).trans rfl, (blk_cell BK326.out 0).trans rfl, (blk_cell BK326.out 1).trans rfl⟩ (fun hHeld => ?_)
       clear hK K
       refine norm_ (a' := ?_) ?_ ?_
       rotate_left
       ·show Act.put _ (some 42) _ = _
        simp only [Act.put, q1, q2, q3, i64_w, i32_w]
        rfl
       refine last_ (i := 4) (N := none) (ar 6 31) rfl rfl (by kernel_rfl) (by decide) (fun K hK => ?_)
       have hs70 : w69.cell? ⟨gb325, 0, none⟩ = some (.int .u64 x326000_1) := (blk_cell BK325.out 0).trans rfl
       have hfs70 := blk_frozen BK325.out 0
       have hns70_1 := NB326_325.out
       have hns70_2 := NB327_325.out
       have hns70_3 := NB330_325.out
       have hns70_4 := NB331_325.out
       have hms70_1 := NB325_326.out
       have hms70_2 := NB325_327.out
       have hms70_3 := NB325_330.out
       have hms70_4 := NB325_331.out
       have hs71 : w69.cell? ⟨gb325, 1, none⟩ = some (.int .u64 x326001_1) := (blk_cell BK325.out 1).trans rfl
       have hfs71 := blk_frozen BK325.out 1
       have hns71_1 := NB326_325.out
       have hns71_2 := NB327_325.out
       have hns71_3 := NB330_325.out
       have hns71_4 := NB331_325.out
       have hms71_1 := NB325_326.out
       have hms71_2 := NB325_327.out
       have hms71_3 := NB325_330.out
       have hms71_4 := NB325_331.out
       refine skip_ (w1 := ?_) (by rfl) rfl ?_ ?_
       rotate_left
       ·go_simp
        rfl
       refine hK.out _ _ ?_
       clear hK K
       refine last_ (i := 5) (N := none) (ar 6 63) rfl rfl (by kernel_rfl) (by decide) (fun K hK => ?_)
       have hs72 : w69.cell? ⟨gb326, 0, none⟩ = some (.int .u64 x327000_1) := (blk_cell BK326.out 0).trans rfl
       have hfs72 := blk_frozen BK326.out 0
       have hns72_0 := NB325_326.out
       have hns72_2 := NB327_326.out
       have hns72_3 := NB330_326.out
       have hns72_4 := NB331_326.out
       have hms72_0 := NB326_325.out
       have hms72_2 := NB326_327.out
       have hms72_3 := NB326_330.out
       have hms72_4 := NB326_331.out
       have hs73 : w69.cell? ⟨gb326, 1, none⟩ = some (.int .u64 x327001_1) := (blk_cell BK326.out 1).trans rfl
       have hfs73 := blk_frozen BK326.out 1
       have hns73_0 := NB325_326.out
       have hns73_2 := NB327_326.out
       have hns73_3 := NB330_326.out
       have hns73_4 := NB331_326.out
       have hms73_0 := NB326_325.out
       have hms73_2 := NB326_327.out
       have hms73_3 := NB326_330.out
       have hms73_4 := NB326_331.out
       refine skip_ (w1 := ?_) (by rfl) rfl ?_ ?_
       rotate_left
       ·go_simp
        rfl
       refine hK.out _ _ ?_
       clear hK K
       refine done_ (by kernel_rfl) ?_
       have hnb74 := NB326_325.out
       have hnc74 := NB325_326.out
       have hnb75 := NB326_327.out
       have hnc75 := NB327_326.out
       have hnb76 := NB326_330.out
       have hnc76 := NB330_326.out
       have hnb77 := NB326_331.out
       have hnc77 := NB331_326.out
       have hcz78_0 : w69.cell? ⟨gb326, 0, none⟩ = some (.int .u64 x327000_1) := (blk_cell BK326.out 0).trans rfl
       have hcz78_1 : w69.cell? ⟨gb326, 1, none⟩ = some (.int .u64 x327001_1) := (blk_cell BK326.out 1).trans rfl
       have hfz78_0 := blk_frozen BK326.out 0
       have hfz78_1 := blk_frozen BK326.out 1
       have hnb79 := NB331_325.out
       have hnc79 := NB325_331.out
       have hnb80 := NB331_327.out
       have hnc80 := NB327_331.out
       have hnb81 := NB331_330.out
       have hnc81 := NB330_331.out
       have hcz82_0 : w69.cell? ⟨gb331, 0, none⟩ = some (.int .u64 x332000_19) := (blk_cell BK331.out 0).trans rfl
       have hcz82_1 : w69.cell? ⟨gb331, 1, none⟩ = some (.int .u64 x332001_19) := (blk_cell BK331.out 1).trans rfl
       have hfz82_0 := blk_frozen BK331.out 0
       have hfz82_1 := blk_frozen BK331.out 1
       have hnb83 := NB330_325.out
       have hnc83 := NB325_330.out
       have hnb84 := NB330_327.out
       have hnc84 := NB327_330.out
       have hcz85_0 : w69.cell? ⟨gb330, 0, none⟩ = some (.int .u64 t328) := (blk_cell BK330.out 0).trans rfl
       have hcz85_1 : w69.cell? ⟨gb330, 1, none⟩ = some (.int .u64 t329) := (blk_cell BK330.out 1).trans rfl
       have hfz85_0 := blk_frozen BK330.out 0
       have hfz85_1 := blk_frozen BK330.out 1
       try go_wp2_with (first | ((with_reducible refine gate_callee (f := 29) rfl ?_); refine goesL_ (some 48) rfl rfl Try.func29 (by kernel_rfl) rfl #[.agg #[.int .u64 x332000_19, .int .u64 x332001_19], .agg #[.int .u64 t328, .int .u64 t329]] rfl (by (try simp only [List.map_toArray, List.map_cons, List.map_nil]); first | done | rfl) ?_; (with_reducible refine (tnum_Add.calls x332000_19 x332001_19 t328 t329 t342 t343 _ A66.out).mono ?_); rintro e w86 ⟨rfl, hb⟩; refine ⟨_, rfl, ?_⟩; have n0_ := am (blk_below (g := gb325) (o := .cells #[.int .u64 t338, .int .u64 t339] 24 (0, 0)) (by (with_reducible repeat (first | refine blk_drewN ?_ _ | refine blk_drew ?_ | refine blk_alloc ?_ _)); refine blk_far ?_ NB325_326.out _; (with_reducible repeat (first | refine blk_drewN ?_ _ | refine blk_drew ?_ | refine blk_alloc ?_ _)); refine blk_far ?_ NB325_326.out _; (with_reducible repeat (first | refine blk_drewN ?_ _ | refine blk_drew ?_ | refine blk_alloc ?_ _)); refine blk_put (cs := #[.int .u64 t338, .int .u64 x326001_1]) ?_ 1 _ rfl; (with_reducible repeat (first | refine blk_drewN ?_ _ | refine blk_drew ?_ | refine blk_alloc ?_ _)); refine blk_put (cs := #[.int .u64 x326000_1, .int .u64 x326001_1]) ?_ 0 _ rfl; (with_reducible repeat (first | refine blk_drewN ?_ _ | refine blk_drew ?_ | refine blk_alloc ?_ _)); exact BK325.out) hb); have n1_ := am (blk_below (g := gb326) (o := .cells #[.int .u64 t340, .int .u64 t341] 24 (0, 0)) (by (with_reducible repeat (first | refine blk_drewN ?_ _ | refine blk_drew ?_ | refine blk_alloc ?_ _)); refine blk_put (cs := #[.int .u64 t340, .int .u64 x327001_1]) ?_ 1 _ rfl; (with_reducible repeat (first | refine blk_drewN ?_ _ | refine blk_drew ?_ | refine blk_alloc ?_ _)); refine blk_put (cs := #[.int .u64 x327000_1, .int .u64 x327001_1]) ?_ 0 _ rfl; (with_reducible repeat (first | refine blk_drewN ?_ _ | refine blk_drew ?_ | refine blk_alloc ?_ _)); refine blk_far ?_ NB326_325.out _; (with_reducible repeat (first | refine blk_drewN ?_ _ | refine blk_drew ?_ | refine blk_alloc ?_ _)); refine blk_far ?_ NB326_325.out _; (with_reducible repeat (first | refine blk_drewN ?_ _ | refine blk_drew ?_ | refine blk_alloc ?_ _)); exact BK326.out) hb); have n2_ := am (blk_below (g := gb327) (o := .cells #[.int .u64 0, .int .u64 0] 24 (0, 0)) (by (with_reducible repeat (first | refine blk_drewN ?_ _ | refine blk_drew ?_ | refine blk_alloc ?_ _)); refine blk_far ?_ NB327_326.out _; (with_reducible repeat (first | refine blk_drewN ?_ _ | refine blk_drew ?_ | refine blk_alloc ?_ _)); refine blk_far ?_ NB327_326.out _; (with_reducible repeat (first | refine blk_drewN ?_ _ | refine blk_drew ?_ | refine blk_alloc ?_ _)); refine blk_far ?_ NB327_325.out _; (with_reducible repeat (first | refine blk_drewN ?_ _ | refine blk_drew ?_ | refine blk_alloc ?_ _)); refine blk_far ?_ NB327_325.out _; (with_reducible repeat (first | refine blk_drewN ?_ _ | refine blk_drew ?_ | refine blk_alloc ?_ _)); exact BK327.out) hb); have n3_ := am (blk_below (g := gb330) (o := .cells #[.int .u64 t328, .int .u64 t329] 24 (0, 0)) (by (with_reducible repeat (first | refine blk_drewN ?_ _ | refine blk_drew ?_ | refine blk_alloc ?_ _)); refine blk_far ?_ NB330_326.out _; (with_reducible repeat (first | refine blk_drewN ?_ _ | refine blk_drew ?_ | refine blk_alloc ?_ _)); refine blk_far ?_ NB330_326.out _; (with_reducible repeat (first | refine blk_drewN ?_ _ | refine blk_drew ?_ | refine blk_alloc ?_ _)); refine blk_far ?_ NB330_325.out _; (with_reducible repeat (first | refine blk_drewN ?_ _ | refine blk_drew ?_ | refine blk_alloc ?_ _)); refine blk_far ?_ NB330_325.out _; (with_reducible repeat (first | refine blk_drewN ?_ _ | refine blk_drew ?_ | refine blk_alloc ?_ _)); exact BK330.out) hb); have n4_ := am (blk_below (g := gb331) (o := .cells #[.int .u64 x332000_19, .int .u64 x332001_19] 24 (0, 0)) (by (with_reducible repeat (first | refine blk_drewN ?_ _ | refine blk_drew ?_ | refine blk_alloc ?_ _)); refine blk_far ?_ NB331_326.out _; (with_reducible repeat (first | refine blk_drewN ?_ _ | refine blk_drew ?_ | refine blk_alloc ?_ _)); refine blk_far ?_ NB331_326.out _; (with_reducible repeat (first | refine blk_drewN ?_ _ | refine blk_drew ?_ | refine blk_alloc ?_ _)); refine blk_far ?_ NB331_325.out _; (with_reducible repeat (first | refine blk_drewN ?_ _ | refine blk_drew ?_ | refine blk_alloc ?_ _)); refine blk_far ?_ NB331_325.out _; (with_reducible repeat (first | refine blk_drewN ?_ _ | refine blk_drew ?_ | refine blk_alloc ?_ _)); exact BK331.out) hb); have n5_ := am (below_step (by repeat (first | exact HB.out | refine below_set ?_ GE325.out | refine below_set ?_ GE326.out | refine below_set ?_ GE327.out | refine below_set ?_ GE330.out | refine below_set ?_ GE331.out)) hb); clear BK325; clear BK326; clear BK327; clear BK330; clear BK331; clear HB; have BK325 := n0_; have BK326 := n1_; have BK327 := n2_; have BK330 := n3_; have BK331 := n4_; have HB := n5_; clear n0_ n1_ n2_ n3_ n4_ n5_; (try clear hb); (try clear hb2); (try clear hk); (try clear hi); have hnb87 := NB327_325.out; have hnc87 := NB325_327.out; have hcz88_0 : w86.cell? ⟨gb327, 0, none⟩ = some (.int .u64 0) := (blk_cell BK327.out 0).trans rfl; have hcz88_1 : w86.cell? ⟨gb327, 1, none⟩ = some (.int .u64 0) := (blk_cell BK327.out 1).trans rfl; have hfz88_0 := blk_frozen BK327.out 0; have hfz88_1 := blk_frozen BK327.out 1))
       try rw [Exit.noGoto_ret]
       refine bodyPost_ret (results_cell_row rfl _ _ gb327 24 #[.int .u64 t342, .int .u64 t343] (0, 0) _ rfl (by (with_reducible repeat (first | refine blk_drewN ?_ _ | refine blk_drew ?_ | refine blk_alloc ?_ _)); refine blk_put (cs := #[.int .u64 t342, .int .u64 0]) ?_ 1 _ rfl; (with_reducible repeat (first | refine blk_drewN ?_ _ | refine blk_drew ?_ | refine blk_alloc ?_ _)); refine blk_put (cs := #[.int .u64 0, .int .u64 0]) ?_ 0 _ rfl; (with_reducible repeat (first | refine blk_drewN ?_ _ | refine blk_drew ?_ | refine blk_alloc ?_ _)); exact BK327.out) Try.underlying24 rfl (by kernel_rfl)) rfl ?_
       exact ⟨by first | rfl | (simp [errW_none, errW_some] <;> rfl) | (simp [*, errW_none, errW_some] <;> rfl), by repeat (first | (with_reducible first | exact HB.out | apply below_alloc | apply pw_below_drewN | apply below_drew1 | refine below_set ?_ GE325.out | refine below_set ?_ GE326.out | refine below_set ?_ GE327.out | refine below_set ?_ GE330.out | refine below_set ?_ GE331.out) | exact HB.out)⟩
      ·rw [if_neg c65] at H
       have c65b0 : (t340 == 0 && (t341 == 0)) = false := by simpa using c65
       (try (have c65b1 : decide (t340 = 0 && (t341 == 0)) = false := by simpa using c65))
       (try (have c65b2 : (t340 == 0 && (t341 == 0)) = false := by simpa using c65))
       (try (have c65b3 : ¬ (t340 = 0 && (t341 == 0)) := by simpa using c65))
       clear c65
       have H' := am H
       clear H
       try go_wp2
       have n0_ := am (blk_drew BK325.out)
       have n1_ := am (blk_drew BK326.out)
       have n2_ := am (blk_drew BK327.out)
       have n3_ := am (blk_drew BK330.out)
       have n4_ := am (blk_drew BK331.out)
       have n5_ := am (below_drew1 HB.out)
       clear BK325
       clear BK326
       clear BK327
       clear BK330
       clear BK331
       clear HB
       have BK325 := n0_
       have BK326 := n1_
       have BK327 := n2_
       have BK330 := n3_
       have BK331 := n4_
       have HB := n5_
       clear n0_ n1_ n2_ n3_ n4_ n5_
       refine start_ (n := 6) (S := fun w' => w'.cell? ⟨gb325, 0, none⟩ = some (.int .u64 x326000_1) ∧ w'.cell? ⟨gb325, 1, none⟩ = some (.int .u64 x326001_1) ∧ w'.cell? ⟨gb326, 0, none⟩ = some (.int .u64 x327000_1) ∧ w'.cell? ⟨gb326, 1, none⟩ = some (.int .u64 x327001_1)) (ds := [4, 5]) (ar 6 0) (by kernel_rfl) rfl rfl ⟨(blk_cell BK325.out 0).trans rfl, (blk_cell BK325.out 1).trans rfl, (blk_cell BK326.out 0).trans rfl, (blk_cell BK326.out 1).trans rfl⟩ (fun hHeld => ?_)
       generalize wc.drew = w89 at BK325 BK326 BK327 BK330 BK331 HB hHeld ⊢
       refine take_ (i := 0) (N := some 39) (v := ?_) (a' := ?_) (ar 6 1) rfl rfl (by kernel_rfl) (fun _ _ _ h => h) (Or.inl ⟨by rfl, ?_⟩) hHeld ?_ ?_
       rotate_left
       ·rintro w' ⟨s0, s1, s2, s3⟩
        go_simp
        with_reducible rfl
       rotate_left
       ·simp only [Act.put, q1, q2, q3, i64_w, i32_w]
        rfl
       refine take_ (i := 2) (N := some 41) (v := ?_) (a' := ?_) (ar 6 5) rfl rfl (by kernel_rfl) (fun _ _ _ h => h) (Or.inl ⟨by rfl, ?_⟩) hHeld ?_ ?_
       rotate_left
       ·rintro w' ⟨s0, s1, s2, s3⟩
        go_simp
        with_reducible rfl
       rotate_left
       ·simp only [Act.put, q1, q2, q3, i64_w, i32_w]
        rfl
       refine one_ (i := 1) (N := some 40) (ar 6 7) rfl rfl (by kernel_rfl) (by decide) (fun K hK => ?_)
       refine goes_ Try.func25 (by kernel_rfl) rfl #[.agg #[.int .u64 x326000_1, .int .u64 x326001_1], .int .u64 1] (by rfl) rfl rfl (by (try simp only [List.map_toArray, List.map_cons, List.map_nil]); first | done | rfl) ?_
       with_reducible refine (tnum_Shr.calls x326000_1 x326001_1 1 t338 t339 _ A63.out).mono ?_
       rintro e w90 ⟨rfl, hb⟩
       refine ⟨_, rfl, ?_⟩
       have n0_ := am (blk_below BK325.out hb)
       have n1_ := am (blk_below BK326.out hb)
       have n2_ := am (blk_below BK327.out hb)
       have n3_ := am (blk_below BK330.out hb)
       have n4_ := am (blk_below BK331.out hb)
       have n5_ := am (below_step (by repeat (first | exact HB.out | refine below_set ?_ GE325.out | refine below_set ?_ GE326.out | refine below_set ?_ GE327.out | refine below_set ?_ GE330.out | refine below_set ?_ GE331.out)) hb)
       clear BK325
       clear BK326
       clear BK327
       clear BK330
       clear BK331
       clear HB
       have BK325 := n0_
       have BK326 := n1_
       have BK327 := n2_
       have BK330 := n3_
       have BK331 := n4_
       have HB := n5_
       clear n0_ n1_ n2_ n3_ n4_ n5_
       (try clear hb)
       (try clear hb2)
       (try clear hk)
       (try clear hi)
       refine hK.out _ _ ⟨(blk_cell BK325.out 0).trans rfl, (blk_cell BK325.out 1).trans rfl, (blk_cell BK326.out 0).trans rfl, (blk_cell BK326.out 1).trans rfl⟩ (fun hHeld => ?_)
       clear hK K
       refine norm_ (a' := ?_) ?_ ?_
       rotate_left
       ·show Act.put _ (some 40) _ = _
        simp only [Act.put, q1, q2, q3, i64_w, i32_w]
        rfl
       refine one_ (i := 3) (N := some 42) (ar 6 15) rfl rfl (by kernel_rfl) (by decide) (fun K hK => ?_)
       refine goes_ Try.func26 (by kernel_rfl) rfl #[.agg #[.int .u64 x327000_1, .int .u64 x327001_1], .int .u64 1] (by rfl) rfl rfl (by (try simp only [List.map_toArray, List.map_cons, List.map_nil]); first | done | rfl) ?_
       with_reducible refine (tnum_Shl.calls x327000_1 x327001_1 1 t340 t341 _ A64.out).mono ?_
       rintro e w91 ⟨rfl, hb⟩
       refine ⟨_, rfl, ?_⟩
       have n0_ := am (blk_below BK325.out hb)
       have n1_ := am (blk_below BK326.out hb)
       have n2_ := am (blk_below BK327.out hb)
       have n3_ := am (blk_below BK330.out hb)
       have n4_ := am (blk_below BK331.out hb)
       have n5_ := am (below_step (by repeat (first | exact HB.out | refine below_set ?_ GE325.out | refine below_set ?_ GE326.out | refine below_set ?_ GE327.out | refine below_set ?_ GE330.out | refine below_set ?_ GE331.out)) hb)
       clear BK325
       clear BK326
       clear BK327
       clear BK330
       clear BK331
       clear HB
       have BK325 := n0_
       have BK326 := n1_
       have BK327 := n2_
       have BK330 := n3_
       have BK331 := n4_
       have HB := n5_
       clear n0_ n1_ n2_ n3_ n4_ n5_
       (try clear hb)
       (try clear hb2)
       (try clear hk)
       (try clear hi)
       refine hK.out _ _ ⟨(blk_cell BK325.out 0).trans rfl, (blk_cell BK325.out 1).trans rfl, (blk_cell BK326.out 0).trans rfl, (blk_cell BK326.out 1).trans rfl⟩ (fun hHeld => ?_)
       clear hK K
       refine norm_ (a' := ?_) ?_ ?_
       rotate_left
       ·show Act.put _ (some 42) _ = _
        simp only [Act.put, q1, q2, q3, i64_w, i32_w]
        rfl
       refine last_ (i := 4) (N := none) (ar 6 31) rfl rfl (by kernel_rfl) (by decide) (fun K hK => ?_)
       have hs92 : w91.cell? ⟨gb325, 0, none⟩ = some (.int .u64 x326000_1) := (blk_cell BK325.out 0).trans rfl
       have hfs92 := blk_frozen BK325.out 0
       have hns92_1 := NB326_325.out
       have hns92_2 := NB327_325.out
       have hns92_3 := NB330_325.out
       have hns92_4 := NB331_325.out
       have hms92_1 := NB325_326.out
       have hms92_2 := NB325_327.out
       have hms92_3 := NB325_330.out
       have hms92_4 := NB325_331.out
       have hs93 : w91.cell? ⟨gb325, 1, none⟩ = some (.int .u64 x326001_1) := (blk_cell BK325.out 1).trans rfl
       have hfs93 := blk_frozen BK325.out 1
       have hns93_1 := NB326_325.out
       have hns93_2 := NB327_325.out
       have hns93_3 := NB330_325.out
       have hns93_4 := NB331_325.out
       have hms93_1 := NB325_326.out
       have hms93_2 := NB325_327.out
       have hms93_3 := NB325_330.out
       have hms93_4 := NB325_331.out
       refine skip_ (w1 := ?_) (by rfl) rfl ?_ ?_
       rotate_left
       ·go_simp
        rfl
       refine hK.out _ _ ?_
       clear hK K
       refine last_ (i := 5) (N := none) (ar 6 63) rfl rfl (by kernel_rfl) (by decide) (fun K hK => ?_)
       have hs94 : w91.cell? ⟨gb326, 0, none⟩ = some (.int .u64 x327000_1) := (blk_cell BK326.out 0).trans rfl
       have hfs94 := blk_frozen BK326.out 0
       have hns94_0 := NB325_326.out
       have hns94_2 := NB327_326.out
       have hns94_3 := NB330_326.out
       have hns94_4 := NB331_326.out
       have hms94_0 := NB326_325.out
       have hms94_2 := NB326_327.out
       have hms94_3 := NB326_330.out
       have hms94_4 := NB326_331.out
       have hs95 : w91.cell? ⟨gb326, 1, none⟩ = some (.int .u64 x327001_1) := (blk_cell BK326.out 1).trans rfl
       have hfs95 := blk_frozen BK326.out 1
       have hns95_0 := NB325_326.out
       have hns95_2 := NB327_326.out
       have hns95_3 := NB330_326.out
       have hns95_4 := NB331_326.out
       have hms95_0 := NB326_325.out
       have hms95_2 := NB326_327.out
       have hms95_3 := NB326_330.out
       have hms95_4 := NB326_331.out
       refine skip_ (w1 := ?_) (by rfl) rfl ?_ ?_
       rotate_left
       ·go_simp
        rfl
       refine hK.out _ _ ?_
       clear hK K
       refine done_ (by kernel_rfl) ?_
       have hnb96 := NB326_325.out
       have hnc96 := NB325_326.out
       have hnb97 := NB326_327.out
       have hnc97 := NB327_326.out
       have hnb98 := NB326_330.out
       have hnc98 := NB330_326.out
       have hnb99 := NB326_331.out
       have hnc99 := NB331_326.out
       have hcz100_0 : w91.cell? ⟨gb326, 0, none⟩ = some (.int .u64 x327000_1) := (blk_cell BK326.out 0).trans rfl
       have hcz100_1 : w91.cell? ⟨gb326, 1, none⟩ = some (.int .u64 x327001_1) := (blk_cell BK326.out 1).trans rfl
       have hfz100_0 := blk_frozen BK326.out 0
       have hfz100_1 := blk_frozen BK326.out 1
       try go_wp2
       go_roundg kj19
       case measure => have := HK1.out; have := HJ19.out; omega
       case rel => exact ⟨(t338), (t339), (t340), (t341), (x332000_19), (x332001_19), H', ⟨by have := HK1.out; have := HJ19.out; omega⟩, ⟨by (with_reducible repeat (first | refine blk_drewN ?_ _ | refine blk_drew ?_ | refine blk_alloc ?_ _)); refine blk_far ?_ NB325_326.out _; (with_reducible repeat (first | refine blk_drewN ?_ _ | refine blk_drew ?_ | refine blk_alloc ?_ _)); refine blk_far ?_ NB325_326.out _; (with_reducible repeat (first | refine blk_drewN ?_ _ | refine blk_drew ?_ | refine blk_alloc ?_ _)); refine blk_put (cs := #[.int .u64 t338, .int .u64 x326001_1]) ?_ 1 _ rfl; (with_reducible repeat (first | refine blk_drewN ?_ _ | refine blk_drew ?_ | refine blk_alloc ?_ _)); refine blk_put (cs := #[.int .u64 x326000_1, .int .u64 x326001_1]) ?_ 0 _ rfl; (with_reducible repeat (first | refine blk_drewN ?_ _ | refine blk_drew ?_ | refine blk_alloc ?_ _)); exact BK325.out⟩, ⟨by (with_reducible repeat (first | refine blk_drewN ?_ _ | refine blk_drew ?_ | refine blk_alloc ?_ _)); refine blk_put (cs := #[.int .u64 t340, .int .u64 x327001_1]) ?_ 1 _ rfl; (with_reducible repeat (first | refine blk_drewN ?_ _ | refine blk_drew ?_ | refine blk_alloc ?_ _)); refine blk_put (cs := #[.int .u64 x327000_1, .int .u64 x327001_1]) ?_ 0 _ rfl; (with_reducible repeat (first | refine blk_drewN ?_ _ | refine blk_drew ?_ | refine blk_alloc ?_ _)); refine blk_far ?_ NB326_325.out _; (with_reducible repeat (first | refine blk_drewN ?_ _ | refine blk_drew ?_ | refine blk_alloc ?_ _)); refine blk_far ?_ NB326_325.out _; (with_reducible repeat (first | refine blk_drewN ?_ _ | refine blk_drew ?_ | refine blk_alloc ?_ _)); exact BK326.out⟩, ⟨by (with_reducible repeat (first | refine blk_drewN ?_ _ | refine blk_drew ?_ | refine blk_alloc ?_ _)); refine blk_far ?_ NB327_326.out _; (with_reducible repeat (first | refine blk_drewN ?_ _ | refine blk_drew ?_ | refine blk_alloc ?_ _)); refine blk_far ?_ NB327_326.out _; (with_reducible repeat (first | refine blk_drewN ?_ _ | refine blk_drew ?_ | refine blk_alloc ?_ _)); refine blk_far ?_ NB327_325.out _; (with_reducible repeat (first | refine blk_drewN ?_ _ | refine blk_drew ?_ | refine blk_alloc ?_ _)); refine blk_far ?_ NB327_325.out _; (with_reducible repeat (first | refine blk_drewN ?_ _ | refine blk_drew ?_ | refine blk_alloc ?_ _)); exact BK327.out⟩, ⟨by (with_reducible repeat (first | refine blk_drewN ?_ _ | refine blk_drew ?_ | refine blk_alloc ?_ _)); refine blk_far ?_ NB330_326.out _; (with_reducible repeat (first | refine blk_drewN ?_ _ | refine blk_drew ?_ | refine blk_alloc ?_ _)); refine blk_far ?_ NB330_326.out _; (with_reducible repeat (first | refine blk_drewN ?_ _ | refine blk_drew ?_ | refine blk_alloc ?_ _)); refine blk_far ?_ NB330_325.out _; (with_reducible repeat (first | refine blk_drewN ?_ _ | refine blk_drew ?_ | refine blk_alloc ?_ _)); refine blk_far ?_ NB330_325.out _; (with_reducible repeat (first | refine blk_drewN ?_ _ | refine blk_drew ?_ | refine blk_alloc ?_ _)); exact BK330.out⟩, ⟨by (with_reducible repeat (first | refine blk_drewN ?_ _ | refine blk_drew ?_ | refine blk_alloc ?_ _)); refine blk_far ?_ NB331_326.out _; (with_reducible repeat (first | refine blk_drewN ?_ _ | refine blk_drew ?_ | refine blk_alloc ?_ _)); refine blk_far ?_ NB331_326.out _; (with_reducible repeat (first | refine blk_drewN ?_ _ | refine blk_drew ?_ | refine blk_alloc ?_ _)); refine blk_far ?_ NB331_325.out _; (with_reducible repeat (first | refine blk_drewN ?_ _ | refine blk_drew ?_ | refine blk_alloc ?_ _)); refine blk_far ?_ NB331_325.out _; (with_reducible repeat (first | refine blk_drewN ?_ _ | refine blk_drew ?_ | refine blk_alloc ?_ _)); exact BK331.out⟩, ⟨by repeat (first | (with_reducible first | exact HB.out | apply below_alloc | apply pw_below_drewN | apply below_drew1 | refine below_set ?_ GE325.out | refine below_set ?_ GE326.out | refine below_set ?_ GE327.out | refine below_set ?_ GE330.out | refine below_set ?_ GE331.out) | exact HB.out)⟩⟩
   ·rw [if_neg c19] at H
    have c19b0 : (!(x326000_1 == 0) || (!(x326001_1 == 0))) = false := by simpa using c19
    clear c19
    replace H := Option.bind_eq_some_iff.mp H
    obtain ⟨⟨t332, t333⟩, A1010, H⟩ := H
    replace H : (some (t332, t333)) = some (r1, r2) := H
    have A101 := am A1010
    clear A1010
    simp only [Option.some.injEq, Prod.mk.injEq] at H
    obtain ⟨rfl, rfl⟩ := H
    have hnb102 := NB325_326.out
    have hnc102 := NB326_325.out
    have hnb103 := NB325_327.out
    have hnc103 := NB327_325.out
    have hnb104 := NB325_330.out
    have hnc104 := NB330_325.out
    have hnb105 := NB325_331.out
    have hnc105 := NB331_325.out
    have hcz106_0 : wr.cell? ⟨gb325, 0, none⟩ = some (.int .u64 x326000_1) := (blk_cell BK325.out 0).trans rfl
    have hcz106_1 : wr.cell? ⟨gb325, 1, none⟩ = some (.int .u64 x326001_1) := (blk_cell BK325.out 1).trans rfl
    have hfz106_0 := blk_frozen BK325.out 0
    have hfz106_1 := blk_frozen BK325.out 1
    have hnb107 := NB331_326.out
    have hnc107 := NB326_331.out
    have hnb108 := NB331_327.out
    have hnc108 := NB327_331.out
    have hnb109 := NB331_330.out
    have hnc109 := NB330_331.out
    have hcz110_0 : wr.cell? ⟨gb331, 0, none⟩ = some (.int .u64 x332000_1) := (blk_cell BK331.out 0).trans rfl
    have hcz110_1 : wr.cell? ⟨gb331, 1, none⟩ = some (.int .u64 x332001_1) := (blk_cell BK331.out 1).trans rfl
    have hfz110_0 := blk_frozen BK331.out 0
    have hfz110_1 := blk_frozen BK331.out 1
    have hnb111 := NB330_326.out
    have hnc111 := NB326_330.out
    have hnb112 := NB330_327.out
    have hnc112 := NB327_330.out
    have hcz113_0 : wr.cell? ⟨gb330, 0, none⟩ = some (.int .u64 t328) := (blk_cell BK330.out 0).trans rfl
    have hcz113_1 : wr.cell? ⟨gb330, 1, none⟩ = some (.int .u64 t329) := (blk_cell BK330.out 1).trans rfl
    have hfz113_0 := blk_frozen BK330.out 0
    have hfz113_1 := blk_frozen BK330.out 1
    go_wp2_with (first | ((with_reducible refine gate_callee (f := 29) rfl ?_); refine goesL_ (some 48) rfl rfl Try.func29 (by kernel_rfl) rfl #[.agg #[.int .u64 x332000_1, .int .u64 x332001_1], .agg #[.int .u64 t328, .int .u64 t329]] rfl (by (try simp only [List.map_toArray, List.map_cons, List.map_nil]); first | done | rfl) ?_; (with_reducible refine (tnum_Add.calls x332000_1 x332001_1 t328 t329 t332 t333 _ A101.out).mono ?_); rintro e w114 ⟨rfl, hb⟩; refine ⟨_, rfl, ?_⟩; have n0_ := am (blk_below BK325.out hb); have n1_ := am (blk_below BK326.out hb); have n2_ := am (blk_below BK327.out hb); have n3_ := am (blk_below BK330.out hb); have n4_ := am (blk_below BK331.out hb); have n5_ := am (below_step (by repeat (first | exact HB.out | refine below_set ?_ GE325.out | refine below_set ?_ GE326.out | refine below_set ?_ GE327.out | refine below_set ?_ GE330.out | refine below_set ?_ GE331.out)) hb); clear BK325; clear BK326; clear BK327; clear BK330; clear BK331; clear HB; have BK325 := n0_; have BK326 := n1_; have BK327 := n2_; have BK330 := n3_; have BK331 := n4_; have HB := n5_; clear n0_ n1_ n2_ n3_ n4_ n5_; (try clear hb); (try clear hb2); (try clear hk); (try clear hi); have hnb115 := NB327_326.out; have hnc115 := NB326_327.out; have hcz116_0 : w114.cell? ⟨gb327, 0, none⟩ = some (.int .u64 0) := (blk_cell BK327.out 0).trans rfl; have hcz116_1 : w114.cell? ⟨gb327, 1, none⟩ = some (.int .u64 0) := (blk_cell BK327.out 1).trans rfl; have hfz116_0 := blk_frozen BK327.out 0; have hfz116_1 := blk_frozen BK327.out 1))
    try rw [Exit.noGoto_ret]
    refine bodyPost_ret (results_cell_row rfl _ _ gb327 24 #[.int .u64 t332, .int .u64 t333] (0, 0) _ rfl (by (with_reducible repeat (first | refine blk_drewN ?_ _ | refine blk_drew ?_ | refine blk_alloc ?_ _)); refine blk_put (cs := #[.int .u64 t332, .int .u64 0]) ?_ 1 _ rfl; (with_reducible repeat (first | refine blk_drewN ?_ _ | refine blk_drew ?_ | refine blk_alloc ?_ _)); refine blk_put (cs := #[.int .u64 0, .int .u64 0]) ?_ 0 _ rfl; (with_reducible repeat (first | refine blk_drewN ?_ _ | refine blk_drew ?_ | refine blk_alloc ?_ _)); exact BK327.out) Try.underlying24 rfl (by kernel_rfl)) rfl ?_
    exact ⟨by first | rfl | (simp [errW_none, errW_some] <;> rfl) | (simp [*, errW_none, errW_some] <;> rfl), by repeat (first | (with_reducible first | exact HB.out | apply below_alloc | apply pw_below_drewN | apply below_drew1 | refine below_set ?_ GE325.out | refine below_set ?_ GE326.out | refine below_set ?_ GE327.out | refine below_set ?_ GE330.out | refine below_set ?_ GE331.out) | exact HB.out)⟩

end Go.Proofs.Ytnljfoaacngamaa.PD
