-- turned from the kit's print
import Derived.Test.YtnljfoaacngamaaPDx0
import Derived.Test.YtnljfoaacngamaaShort
import Derived.Test.YtnljfoaacngamaaPDx2
import Derived.Test.YtnljfoaacngamaaPDx2r
namespace Go.Proofs.Ytnljfoaacngamaa.PD
open Go.RowKit Go.Proofs.YtnljfoaacngamaaW.PrintWords Go.Proofs.YtnljfoaacngamaaW.PrintLast Go.Proofs.YtnljfoaacngamaaW.PrintMore
attribute [local go_sem] max2_int min2_int max_two min_two max_three min_three max_four min_four   -- for this text's walks alone
set_option linter.unusedVariables false
set_option linter.unusedSimpArgs false

/-! ### wardenref03_Bits: function 21 -/
mutual
def wardenref03_Bits.l0 : Nat → Int → Int → Int → Int → Int → Int → Int → Int → Option (Int × Int)
 | 0, _, _, _, _, _, _, _, _ => none
 | k + 1, x2, x8, x155000, x155001, x156000, x156001, x158000, x158001 => if x8 < 64 then ((wardenref03_bit.f x155000 x155001 x8).bind fun t158 => ((wardenref03_bit.f x156000 x156001 x8).bind fun t159 => (if x2 = 0 then (if t158 = t159 then ((wardenref03_put.f x158000 x158001 x8 t158).bind fun bt160 => (wardenref03_Bits.l0 k x2 (wrap64 (x8 + 1)) x155000 x155001 x156000 x156001 bt160.1 bt160.2)) else ((wardenref03_put.f x158000 x158001 x8 2).bind fun bt162 => (wardenref03_Bits.l0 k x2 (wrap64 (x8 + 1)) x155000 x155001 x156000 x156001 bt162.1 bt162.2))) else (if x2 = 1 then (if t158 = 0 then (wardenref03_Bits.j1 k x2 x8 t158 t159 2 true x155000 x155001 x156000 x156001 x158000 x158001) else (wardenref03_Bits.j1 k x2 x8 t158 t159 2 (t159 == 0) x155000 x155001 x156000 x156001 x158000 x158001)) else (if x2 = 2 then (if t158 = 1 then (wardenref03_Bits.j2 k x2 x8 t158 t159 2 true x155000 x155001 x156000 x156001 x158000 x158001) else (wardenref03_Bits.j2 k x2 x8 t158 t159 2 (t159 == 1) x155000 x155001 x156000 x156001 x158000 x158001)) else (if x2 = 3 then (if t158 = 2 then ((wardenref03_put.f x158000 x158001 x8 2).bind fun bt180 => (wardenref03_Bits.l0 k x2 (wrap64 (x8 + 1)) x155000 x155001 x156000 x156001 bt180.1 bt180.2)) else (if t159 = 2 then ((wardenref03_put.f x158000 x158001 x8 2).bind fun bt182 => (wardenref03_Bits.l0 k x2 (wrap64 (x8 + 1)) x155000 x155001 x156000 x156001 bt182.1 bt182.2)) else ((wardenref03_put.f x158000 x158001 x8 (Go.bits .xor .i64 t158 t159)).bind fun bt184 => (wardenref03_Bits.l0 k x2 (wrap64 (x8 + 1)) x155000 x155001 x156000 x156001 bt184.1 bt184.2)))) else ((wardenref03_put.f x158000 x158001 x8 2).bind fun bt186 => (wardenref03_Bits.l0 k x2 (wrap64 (x8 + 1)) x155000 x155001 x156000 x156001 bt186.1 bt186.2)))))))) else (some (x158000, x158001))
def wardenref03_Bits.j1 : Nat → Int → Int → Int → Int → Int → Bool → Int → Int → Int → Int → Int → Int → Option (Int × Int)
 | 0, _, _, _, _, _, _, _, _, _, _, _, _ => none
 | k + 1, x2, x8, x9, x10, x11, x37, x155000, x155001, x156000, x156001, x158000, x158001 => if x37 = true then ((wardenref03_put.f x158000 x158001 x8 0).bind fun bt164 => (wardenref03_Bits.l0 k x2 (wrap64 (x8 + 1)) x155000 x155001 x156000 x156001 bt164.1 bt164.2)) else (if x9 = 1 then (if x10 = 1 then ((wardenref03_put.f x158000 x158001 x8 1).bind fun bt166 => (wardenref03_Bits.l0 k x2 (wrap64 (x8 + 1)) x155000 x155001 x156000 x156001 bt166.1 bt166.2)) else ((wardenref03_put.f x158000 x158001 x8 x11).bind fun bt168 => (wardenref03_Bits.l0 k x2 (wrap64 (x8 + 1)) x155000 x155001 x156000 x156001 bt168.1 bt168.2))) else ((wardenref03_put.f x158000 x158001 x8 x11).bind fun bt170 => (wardenref03_Bits.l0 k x2 (wrap64 (x8 + 1)) x155000 x155001 x156000 x156001 bt170.1 bt170.2)))
def wardenref03_Bits.j2 : Nat → Int → Int → Int → Int → Int → Bool → Int → Int → Int → Int → Int → Int → Option (Int × Int)
 | 0, _, _, _, _, _, _, _, _, _, _, _, _ => none
 | k + 1, x2, x8, x9, x10, x11, x51, x155000, x155001, x156000, x156001, x158000, x158001 => if x51 = true then ((wardenref03_put.f x158000 x158001 x8 1).bind fun bt172 => (wardenref03_Bits.l0 k x2 (wrap64 (x8 + 1)) x155000 x155001 x156000 x156001 bt172.1 bt172.2)) else (if x9 = 0 then (if x10 = 0 then ((wardenref03_put.f x158000 x158001 x8 0).bind fun bt174 => (wardenref03_Bits.l0 k x2 (wrap64 (x8 + 1)) x155000 x155001 x156000 x156001 bt174.1 bt174.2)) else ((wardenref03_put.f x158000 x158001 x8 x11).bind fun bt176 => (wardenref03_Bits.l0 k x2 (wrap64 (x8 + 1)) x155000 x155001 x156000 x156001 bt176.1 bt176.2))) else ((wardenref03_put.f x158000 x158001 x8 x11).bind fun bt178 => (wardenref03_Bits.l0 k x2 (wrap64 (x8 + 1)) x155000 x155001 x156000 x156001 bt178.1 bt178.2)))
end
def wardenref03_Bits.f (k : Nat) (a0_0 : Int) (a0_1 : Int) (a1_0 : Int) (a1_1 : Int) (a2 : Int) : Option (Int × Int) := wardenref03_Bits.l0 k a2 0 a0_0 a0_1 a1_0 a1_1 0 0
theorem wardenref03_Bits.mono_l : ∀ k, (∀ y0 y1 y2 y3 y4 y5 y6 y7, LeO (wardenref03_Bits.l0 k y0 y1 y2 y3 y4 y5 y6 y7) (wardenref03_Bits.l0 (k + 1) y0 y1 y2 y3 y4 y5 y6 y7)) ∧ (∀ y0 y1 y2 y3 y4 y5 y6 y7 y8 y9 y10 y11, LeO (wardenref03_Bits.j1 k y0 y1 y2 y3 y4 y5 y6 y7 y8 y9 y10 y11) (wardenref03_Bits.j1 (k + 1) y0 y1 y2 y3 y4 y5 y6 y7 y8 y9 y10 y11)) ∧ (∀ y0 y1 y2 y3 y4 y5 y6 y7 y8 y9 y10 y11, LeO (wardenref03_Bits.j2 k y0 y1 y2 y3 y4 y5 y6 y7 y8 y9 y10 y11) (wardenref03_Bits.j2 (k + 1) y0 y1 y2 y3 y4 y5 y6 y7 y8 y9 y10 y11))
 | 0 => ⟨fun _ _ _ _ _ _ _ _ r h => by simp [wardenref03_Bits.l0] at h, fun _ _ _ _ _ _ _ _ _ _ _ _ r h => by simp [wardenref03_Bits.j1] at h, fun _ _ _ _ _ _ _ _ _ _ _ _ r h => by simp [wardenref03_Bits.j2] at h⟩
 | k + 1 => by
  obtain ⟨ih0, ih1, ih2⟩ := wardenref03_Bits.mono_l k
  refine ⟨?_, ?_, ?_⟩
  ·intro y0 y1 y2 y3 y4 y5 y6 y7
   unfold wardenref03_Bits.l0
   repeat' first
   | (with_reducible exact ih0 _ _ _ _ _ _ _ _)
   | (with_reducible exact ih1 _ _ _ _ _ _ _ _ _ _ _ _)
   | (with_reducible exact ih2 _ _ _ _ _ _ _ _ _ _ _ _)
   | (with_reducible exact LeO.refl _)
   | (with_reducible exact LeO.none _)
   | (with_reducible refine LeO.ite ?_ ?_)
   | (with_reducible refine LeO.bind ?_ (fun _ => ?_))
   | exact ih0 _ _ _ _ _ _ _ _
   | exact ih1 _ _ _ _ _ _ _ _ _ _ _ _
   | exact ih2 _ _ _ _ _ _ _ _ _ _ _ _
   | exact LeO.none _
   | refine LeO.ite ?_ ?_
   | refine LeO.bind ?_ (fun _ => ?_)
  ·intro y0 y1 y2 y3 y4 y5 y6 y7 y8 y9 y10 y11
   unfold wardenref03_Bits.j1
   repeat' first
   | (with_reducible exact ih0 _ _ _ _ _ _ _ _)
   | (with_reducible exact ih1 _ _ _ _ _ _ _ _ _ _ _ _)
   | (with_reducible exact ih2 _ _ _ _ _ _ _ _ _ _ _ _)
   | (with_reducible exact LeO.refl _)
   | (with_reducible exact LeO.none _)
   | (with_reducible refine LeO.ite ?_ ?_)
   | (with_reducible refine LeO.bind ?_ (fun _ => ?_))
   | exact ih0 _ _ _ _ _ _ _ _
   | exact ih1 _ _ _ _ _ _ _ _ _ _ _ _
   | exact ih2 _ _ _ _ _ _ _ _ _ _ _ _
   | exact LeO.none _
   | refine LeO.ite ?_ ?_
   | refine LeO.bind ?_ (fun _ => ?_)
  ·intro y0 y1 y2 y3 y4 y5 y6 y7 y8 y9 y10 y11
   unfold wardenref03_Bits.j2
   repeat' first
   | (with_reducible exact ih0 _ _ _ _ _ _ _ _)
   | (with_reducible exact ih1 _ _ _ _ _ _ _ _ _ _ _ _)
   | (with_reducible exact ih2 _ _ _ _ _ _ _ _ _ _ _ _)
   | (with_reducible exact LeO.refl _)
   | (with_reducible exact LeO.none _)
   | (with_reducible refine LeO.ite ?_ ?_)
   | (with_reducible refine LeO.bind ?_ (fun _ => ?_))
   | exact ih0 _ _ _ _ _ _ _ _
   | exact ih1 _ _ _ _ _ _ _ _ _ _ _ _
   | exact ih2 _ _ _ _ _ _ _ _ _ _ _ _
   | exact LeO.none _
   | refine LeO.ite ?_ ?_
   | refine LeO.bind ?_ (fun _ => ?_)
theorem wardenref03_Bits.mono : ∀ a0 a1 a2 a3 a4 k, LeO (wardenref03_Bits.f k a0 a1 a2 a3 a4) (wardenref03_Bits.f (k + 1) a0 a1 a2 a3 a4) := by
 intro a0 a1 a2 a3 a4 k
 obtain ⟨ih0, ih1, ih2⟩ := wardenref03_Bits.mono_l k
 unfold wardenref03_Bits.f
 repeat' first
   | (with_reducible exact ih0 _ _ _ _ _ _ _ _)
   | (with_reducible exact ih1 _ _ _ _ _ _ _ _ _ _ _ _)
   | (with_reducible exact ih2 _ _ _ _ _ _ _ _ _ _ _ _)
   | (with_reducible exact LeO.refl _)
   | (with_reducible exact LeO.none _)
   | (with_reducible refine LeO.ite ?_ ?_)
   | (with_reducible refine LeO.bind ?_ (fun _ => ?_))
   | exact ih0 _ _ _ _ _ _ _ _
   | exact ih1 _ _ _ _ _ _ _ _ _ _ _ _
   | exact ih2 _ _ _ _ _ _ _ _ _ _ _ _
   | exact LeO.none _
   | refine LeO.ite ?_ ?_
   | refine LeO.bind ?_ (fun _ => ?_)
def wardenref03_Bits.T5 : Bool × List (List Nat × List Nat) := (true, [([], []), ([], []), ([0, 1], [0, 1]), ([], []), ([], []), ([3, 4, 2], [3, 4]), ([2, 5, 0, 1, 2], [2]), ([5, 6, 0, 1, 2, 3, 4, 5, 6], [5])])
def wardenref03_Bits.B5 : List Nat := [0, 0, 3, 0, 0, 31, 63, 127]
theorem wardenref03_Bits.tab5 : rtab .any (opsOf Try.f21 5) = wardenref03_Bits.T5 := by kernel_rfl
theorem wardenref03_Bits.bits5 : waitsOk wardenref03_Bits.T5.2 wardenref03_Bits.B5 = true := by kernel_rfl
set_option maxHeartbeats 8000000 in
set_option maxRecDepth 100000 in
theorem wardenref03_Bits.calls (k : Nat) (a0_0 : Int) (a0_1 : Int) (a1_0 : Int) (a1_1 : Int) (a2 : Int) (r1 : Int) (r2 : Int) (w : World) (h : wardenref03_Bits.f k a0_0 a0_1 a1_0 a1_1 a2 = some (r1, r2)) :
  Calls Try.prog 21 #[.agg #[.int .u64 a0_0, .int .u64 a0_1], .agg #[.int .u64 a1_0, .int .u64 a1_1], .int .i64 a2] w fun e w' => e = .returned (.agg #[.int .u64 r1, .int .u64 r2]) ∧ Below w.heap.size w w' := by
 have hu24 := Try.underlying24
 have HB := am (Below.refl w.heap.size w)
 have H : (wardenref03_Bits.l0 k a2 0 a0_0 a0_1 a1_0 a1_1 0 0) = some (r1, r2) := h
 clear h
 have H' := am H
 clear H
 go_enter Try.func21, Try.ntmps21
 go_wp2_with (first | ((with_reducible refine gate_dst (N := 3) rfl ?_); refine box_event ?hg (N := 3) ?hd (cs := #[.int .u64 a0_0, .int .u64 a0_1]) (t := 24) ?hr ?_; (case hd => rfl); (case hg => rfl); (case hr => first | (go_simp; done) | (go_simp; rfl)); intro gb154 hg w4 hbox hb; have n0_ := am (below_step HB.out hb); have n1_ := am (hbox); have n2_ := am ((by rw [hg]; exact (below_size HB.out) : w.heap.size ≤ gb154)); have n3_ := am ((by rw [hg]; exact (below_size HB.out) : w.heap.size ≤ gb154)); clear HB; have HB := n0_; have BK154 := n1_; have GW154 := n2_; have GE154 := n3_; clear n0_ n1_ n2_ n3_; clear hb hbox hg) | ((with_reducible refine gate_dst (N := 4) rfl ?_); refine box_event ?hg (N := 4) ?hd (cs := #[.int .u64 a1_0, .int .u64 a1_1]) (t := 24) ?hr ?_; (case hd => rfl); (case hg => rfl); (case hr => first | (go_simp; done) | (go_simp; rfl)); intro gb155 hg w5 hbox hb; have n0_ := am (blk_below BK154.out hb); have n1_ := am (below_step (by repeat (first | exact HB.out | refine below_set ?_ GE154.out)) hb); have n2_ := am (hbox); have n3_ := am ((by rw [hg]; exact (below_size (by repeat (first | exact HB.out | refine below_set ?_ GE154.out))) : w.heap.size ≤ gb155)); have n4_ := am ((by rw [hg]; exact (below_size (by repeat (first | exact HB.out | refine below_set ?_ GE154.out))) : w.heap.size ≤ gb155)); have n5_ := am ((by rw [hg]; exact Nat.ne_of_lt (blk_lt BK154.out) : gb154 ≠ gb155)); have n6_ := am ((by rw [hg]; exact Nat.ne_of_gt (blk_lt BK154.out) : gb155 ≠ gb154)); clear BK154; clear HB; have BK154 := n0_; have HB := n1_; have BK155 := n2_; have GW155 := n3_; have GE155 := n4_; have NB154_155 := n5_; have NB155_154 := n6_; clear n0_ n1_ n2_ n3_ n4_ n5_ n6_; clear hb hbox hg) | ((with_reducible refine gate_dst (N := 6) rfl ?_); refine box_event ?hg (N := 6) ?hd (cs := #[.int .u64 0, .int .u64 0]) (t := 24) ?hr ?_; (case hd => rfl); (case hg => rfl); (case hr => first | (go_simp; done) | (go_simp; rfl)); intro gb156 hg w6 hbox hb; have n0_ := am (blk_below BK154.out hb); have n1_ := am (blk_below BK155.out hb); have n2_ := am (below_step (by repeat (first | exact HB.out | refine below_set ?_ GE154.out | refine below_set ?_ GE155.out)) hb); have n3_ := am (hbox); have n4_ := am ((by rw [hg]; exact (below_size (by repeat (first | exact HB.out | refine below_set ?_ GE154.out | refine below_set ?_ GE155.out))) : w.heap.size ≤ gb156)); have n5_ := am ((by rw [hg]; exact (below_size (by repeat (first | exact HB.out | refine below_set ?_ GE154.out | refine below_set ?_ GE155.out))) : w.heap.size ≤ gb156)); have n6_ := am ((by rw [hg]; exact Nat.ne_of_lt (blk_lt BK154.out) : gb154 ≠ gb156)); have n7_ := am ((by rw [hg]; exact Nat.ne_of_gt (blk_lt BK154.out) : gb156 ≠ gb154)); have n8_ := am ((by rw [hg]; exact Nat.ne_of_lt (blk_lt BK155.out) : gb155 ≠ gb156)); have n9_ := am ((by rw [hg]; exact Nat.ne_of_gt (blk_lt BK155.out) : gb156 ≠ gb155)); clear BK154; clear BK155; clear HB; have BK154 := n0_; have BK155 := n1_; have HB := n2_; have BK156 := n3_; have GW156 := n4_; have GE156 := n5_; have NB154_156 := n6_; have NB156_154 := n7_; have NB155_156 := n8_; have NB156_155 := n9_; clear n0_ n1_ n2_ n3_ n4_ n5_ n6_ n7_ n8_ n9_; clear hb hbox hg) | ((with_reducible refine gate_dst (N := 7) rfl ?_); refine box_event ?hg (N := 7) ?hd (cs := #[.int .u64 0, .int .u64 0]) (t := 24) ?hr ?_; (case hd => rfl); (case hg => rfl); (case hr => first | (go_simp; done) | (go_simp; rfl)); intro gb157 hg w7 hbox hb; have n0_ := am (blk_below BK154.out hb); have n1_ := am (blk_below BK155.out hb); have n2_ := am (blk_below BK156.out hb); have n3_ := am (below_step (by repeat (first | exact HB.out | refine below_set ?_ GE154.out | refine below_set ?_ GE155.out | refine below_set ?_ GE156.out)) hb); have n4_ := am (hbox); have n5_ := am ((by rw [hg]; exact (below_size (by repeat (first | exact HB.out | refine below_set ?_ GE154.out | refine below_set ?_ GE155.out | refine below_set ?_ GE156.out))) : w.heap.size ≤ gb157)); have n6_ := am ((by rw [hg]; exact (below_size (by repeat (first | exact HB.out | refine below_set ?_ GE154.out | refine below_set ?_ GE155.out | refine below_set ?_ GE156.out))) : w.heap.size ≤ gb157)); have n7_ := am ((by rw [hg]; exact Nat.ne_of_lt (blk_lt BK154.out) : gb154 ≠ gb157)); have n8_ := am ((by rw [hg]; exact Nat.ne_of_gt (blk_lt BK154.out) : gb157 ≠ gb154)); have n9_ := am ((by rw [hg]; exact Nat.ne_of_lt (blk_lt BK155.out) : gb155 ≠ gb157)); have n10_ := am ((by rw [hg]; exact Nat.ne_of_gt (blk_lt BK155.out) : gb157 ≠ gb155)); have n11_ := am ((by rw [hg]; exact Nat.ne_of_lt (blk_lt BK156.out) : gb156 ≠ gb157)); have n12_ := am ((by rw [hg]; exact Nat.ne_of_gt (blk_lt BK156.out) : gb157 ≠ gb156)); clear BK154; clear BK155; clear BK156; clear HB; have BK154 := n0_; have BK155 := n1_; have BK156 := n2_; have HB := n3_; have BK157 := n4_; have GW157 := n5_; have GE157 := n6_; have NB154_157 := n7_; have NB157_154 := n8_; have NB155_157 := n9_; have NB157_155 := n10_; have NB156_157 := n11_; have NB157_156 := n12_; clear n0_ n1_ n2_ n3_ n4_ n5_ n6_ n7_ n8_ n9_ n10_ n11_ n12_; clear hb hbox hg; have hnb8 := NB157_154.out; have hnc8 := NB154_157.out; have hnb9 := NB157_155.out; have hnc9 := NB155_157.out; have hnb10 := NB157_156.out; have hnc10 := NB156_157.out; have hcz11_0 : w7.cell? ⟨gb157, 0, none⟩ = some (.int .u64 0) := (blk_cell BK157.out 0).trans rfl; have hcz11_1 : w7.cell? ⟨gb157, 1, none⟩ = some (.int .u64 0) := (blk_cell BK157.out 1).trans rfl; have hfz11_0 := blk_frozen BK157.out 0; have hfz11_1 := blk_frozen BK157.out 1))
 go_loopg [8] k (fun kq v8 w' => ∃ (x8_1 : Int) (x158000_1 : Int) (x158001_1 : Int), v8 = .int .i64 x8_1 ∧ Aside0 (wardenref03_Bits.l0 kq a2 x8_1 a0_0 a0_1 a1_0 a1_1 x158000_1 x158001_1 = some (r1, r2)) ∧ Aside0 (kq ≤ k) ∧ Aside0 (w'.heap[gb154]? = some (.cells #[.int .u64 a0_0, .int .u64 a0_1] 24 (0, 0))) ∧ Aside0 (w'.heap[gb155]? = some (.cells #[.int .u64 a1_0, .int .u64 a1_1] 24 (0, 0))) ∧ Aside0 (w'.heap[gb156]? = some (.cells #[.int .u64 0, .int .u64 0] 24 (0, 0))) ∧ Aside0 (w'.heap[gb157]? = some (.cells #[.int .u64 x158000_1, .int .u64 x158001_1] 24 (0, 0))) ∧ Aside0 (Below w.heap.size w w'))
 case atStart => exact ⟨(0), (0), (0), (by first | rfl | (simp; done) | (simp [*]; done)), H', ⟨Nat.le_refl _⟩, ⟨by (with_reducible repeat (first | refine blk_drewN ?_ _ | refine blk_drew ?_ | refine blk_alloc ?_ _)); refine blk_far ?_ NB154_157.out _; (with_reducible repeat (first | refine blk_drewN ?_ _ | refine blk_drew ?_ | refine blk_alloc ?_ _)); refine blk_far ?_ NB154_157.out _; (with_reducible repeat (first | refine blk_drewN ?_ _ | refine blk_drew ?_ | refine blk_alloc ?_ _)); exact BK154.out⟩, ⟨by (with_reducible repeat (first | refine blk_drewN ?_ _ | refine blk_drew ?_ | refine blk_alloc ?_ _)); refine blk_far ?_ NB155_157.out _; (with_reducible repeat (first | refine blk_drewN ?_ _ | refine blk_drew ?_ | refine blk_alloc ?_ _)); refine blk_far ?_ NB155_157.out _; (with_reducible repeat (first | refine blk_drewN ?_ _ | refine blk_drew ?_ | refine blk_alloc ?_ _)); exact BK155.out⟩, ⟨by (with_reducible repeat (first | refine blk_drewN ?_ _ | refine blk_drew ?_ | refine blk_alloc ?_ _)); refine blk_far ?_ NB156_157.out _; (with_reducible repeat (first | refine blk_drewN ?_ _ | refine blk_drew ?_ | refine blk_alloc ?_ _)); refine blk_far ?_ NB156_157.out _; (with_reducible repeat (first | refine blk_drewN ?_ _ | refine blk_drew ?_ | refine blk_alloc ?_ _)); exact BK156.out⟩, ⟨by (with_reducible repeat (first | refine blk_drewN ?_ _ | refine blk_drew ?_ | refine blk_alloc ?_ _)); refine blk_put (cs := #[.int .u64 0, .int .u64 0]) ?_ 1 _ rfl; (with_reducible repeat (first | refine blk_drewN ?_ _ | refine blk_drew ?_ | refine blk_alloc ?_ _)); refine blk_put (cs := #[.int .u64 0, .int .u64 0]) ?_ 0 _ rfl; (with_reducible repeat (first | refine blk_drewN ?_ _ | refine blk_drew ?_ | refine blk_alloc ?_ _)); exact BK157.out⟩, ⟨by repeat (first | (with_reducible first | exact HB.out | apply below_alloc | apply pw_below_drewN | apply below_drew1 | refine below_set ?_ GE154.out | refine below_set ?_ GE155.out | refine below_set ?_ GE156.out | refine below_set ?_ GE157.out) | exact HB.out)⟩⟩
 case round =>
  clear H'
  try clear c1
  try clear c2
  try clear p2
  try clear c8
  try clear c9
  try clear c10
  try clear hcz11_0
  try clear hcz11_1
  try clear hfz11_0
  try clear hfz11_1
  obtain ⟨x8_1, x158000_1, x158001_1, rfl, HA, HK1, BK154, BK155, BK156, BK157, HB⟩ := hrel
  cases gk with
  | zero => exact absurd HA.out (by simp [wardenref03_Bits.l0])
  | succ k1 =>
   have H := HA.out
   clear HA
   simp only [wardenref03_Bits.l0] at H
   by_cases c12 : x8_1 < 64
   ·rw [if_pos c12] at H
    have c12b0 : decide (x8_1 < 64) = true := decide_eq_true c12
    clear c12
    replace H := Option.bind_eq_some_iff.mp H
    obtain ⟨t158, A130, H⟩ := H
    replace H : ((wardenref03_bit.f a1_0 a1_1 x8_1).bind fun t159 => (if a2 = 0 then (if t158 = t159 then ((wardenref03_put.f x158000_1 x158001_1 x8_1 t158).bind fun bt160 => (wardenref03_Bits.l0 k1 a2 (wrap64 (x8_1 + 1)) a0_0 a0_1 a1_0 a1_1 bt160.1 bt160.2)) else ((wardenref03_put.f x158000_1 x158001_1 x8_1 2).bind fun bt162 => (wardenref03_Bits.l0 k1 a2 (wrap64 (x8_1 + 1)) a0_0 a0_1 a1_0 a1_1 bt162.1 bt162.2))) else (if a2 = 1 then (if t158 = 0 then (wardenref03_Bits.j1 k1 a2 x8_1 t158 t159 2 true a0_0 a0_1 a1_0 a1_1 x158000_1 x158001_1) else (wardenref03_Bits.j1 k1 a2 x8_1 t158 t159 2 (t159 == 0) a0_0 a0_1 a1_0 a1_1 x158000_1 x158001_1)) else (if a2 = 2 then (if t158 = 1 then (wardenref03_Bits.j2 k1 a2 x8_1 t158 t159 2 true a0_0 a0_1 a1_0 a1_1 x158000_1 x158001_1) else (wardenref03_Bits.j2 k1 a2 x8_1 t158 t159 2 (t159 == 1) a0_0 a0_1 a1_0 a1_1 x158000_1 x158001_1)) else (if a2 = 3 then (if t158 = 2 then ((wardenref03_put.f x158000_1 x158001_1 x8_1 2).bind fun bt180 => (wardenref03_Bits.l0 k1 a2 (wrap64 (x8_1 + 1)) a0_0 a0_1 a1_0 a1_1 bt180.1 bt180.2)) else (if t159 = 2 then ((wardenref03_put.f x158000_1 x158001_1 x8_1 2).bind fun bt182 => (wardenref03_Bits.l0 k1 a2 (wrap64 (x8_1 + 1)) a0_0 a0_1 a1_0 a1_1 bt182.1 bt182.2)) else ((wardenref03_put.f x158000_1 x158001_1 x8_1 (Go.bits .xor .i64 t158 t159)).bind fun bt184 => (wardenref03_Bits.l0 k1 a2 (wrap64 (x8_1 + 1)) a0_0 a0_1 a1_0 a1_1 bt184.1 bt184.2)))) else ((wardenref03_put.f x158000_1 x158001_1 x8_1 2).bind fun bt186 => (wardenref03_Bits.l0 k1 a2 (wrap64 (x8_1 + 1)) a0_0 a0_1 a1_0 a1_1 bt186.1 bt186.2))))))) = some (r1, r2) := H
    have A13 := am A130
    clear A130
    replace H := Option.bind_eq_some_iff.mp H
    obtain ⟨t159, A140, H⟩ := H
    replace H : (if a2 = 0 then (if t158 = t159 then ((wardenref03_put.f x158000_1 x158001_1 x8_1 t158).bind fun bt160 => (wardenref03_Bits.l0 k1 a2 (wrap64 (x8_1 + 1)) a0_0 a0_1 a1_0 a1_1 bt160.1 bt160.2)) else ((wardenref03_put.f x158000_1 x158001_1 x8_1 2).bind fun bt162 => (wardenref03_Bits.l0 k1 a2 (wrap64 (x8_1 + 1)) a0_0 a0_1 a1_0 a1_1 bt162.1 bt162.2))) else (if a2 = 1 then (if t158 = 0 then (wardenref03_Bits.j1 k1 a2 x8_1 t158 t159 2 true a0_0 a0_1 a1_0 a1_1 x158000_1 x158001_1) else (wardenref03_Bits.j1 k1 a2 x8_1 t158 t159 2 (t159 == 0) a0_0 a0_1 a1_0 a1_1 x158000_1 x158001_1)) else (if a2 = 2 then (if t158 = 1 then (wardenref03_Bits.j2 k1 a2 x8_1 t158 t159 2 true a0_0 a0_1 a1_0 a1_1 x158000_1 x158001_1) else (wardenref03_Bits.j2 k1 a2 x8_1 t158 t159 2 (t159 == 1) a0_0 a0_1 a1_0 a1_1 x158000_1 x158001_1)) else (if a2 = 3 then (if t158 = 2 then ((wardenref03_put.f x158000_1 x158001_1 x8_1 2).bind fun bt180 => (wardenref03_Bits.l0 k1 a2 (wrap64 (x8_1 + 1)) a0_0 a0_1 a1_0 a1_1 bt180.1 bt180.2)) else (if t159 = 2 then ((wardenref03_put.f x158000_1 x158001_1 x8_1 2).bind fun bt182 => (wardenref03_Bits.l0 k1 a2 (wrap64 (x8_1 + 1)) a0_0 a0_1 a1_0 a1_1 bt182.1 bt182.2)) else ((wardenref03_put.f x158000_1 x158001_1 x8_1 (Go.bits .xor .i64 t158 t159)).bind fun bt184 => (wardenref03_Bits.l0 k1 a2 (wrap64 (x8_1 + 1)) a0_0 a0_1 a1_0 a1_1 bt184.1 bt184.2)))) else ((wardenref03_put.f x158000_1 x158001_1 x8_1 2).bind fun bt186 => (wardenref03_Bits.l0 k1 a2 (wrap64 (x8_1 + 1)) a0_0 a0_1 a1_0 a1_1 bt186.1 bt186.2)))))) = some (r1, r2) := H
    have A14 := am A140
    clear A140
    by_cases c15 : a2 = 0
    ·rw [if_pos c15] at H
     have c15b0 : (a2 == 0) = true := beq_iff_eq.mpr c15
     have c15b1 : (a2 != 0) = false := bne_eq_false_iff_eq.mpr c15
     clear c15
     by_cases c16 : t158 = t159
     ·rw [if_pos c16] at H
      have c16b0 : (t158 == t159) = true := beq_iff_eq.mpr c16
      have c16b1 : (t158 != t159) = false := bne_eq_false_iff_eq.mpr c16
      clear c16
      replace H := Option.bind_eq_some_iff.mp H
      obtain ⟨⟨t160, t161⟩, A170, H⟩ := H
      replace H : (wardenref03_Bits.l0 k1 a2 (wrap64 (x8_1 + 1)) a0_0 a0_1 a1_0 a1_1 t160 t161) = some (r1, r2) := H
      have A17 := am A170
      clear A170
      have H' := am H
      clear H
      try go_wp2
      have n0_ := am (blk_drew BK154.out)
      have n1_ := am (blk_drew BK155.out)
      have n2_ := am (blk_drew BK156.out)
      have n3_ := am (blk_drew BK157.out)
      have n4_ := am (below_drew1 HB.out)
      clear BK154
      clear BK155
      clear BK156
      clear BK157
      clear HB
      have BK154 := n0_
      have BK155 := n1_
      have BK156 := n2_
      have BK157 := n3_
      have HB := n4_
      clear n0_ n1_ n2_ n3_ n4_
      refine start_ (n := 8) (S := fun w' => w'.cell? ⟨gb154, 0, none⟩ = some (.int .u64 a0_0) ∧ w'.cell? ⟨gb154, 1, none⟩ = some (.int .u64 a0_1) ∧ w'.cell? ⟨gb155, 0, none⟩ = some (.int .u64 a1_0) ∧ w'.cell? ⟨gb155, 1, none⟩ = some (.int .u64 a1_1)) (ds := []) (ar 8 0) (by kernel_rfl) rfl rfl ⟨(blk_cell BK154.out 0).trans rfl, (blk_cell BK154.out 1).trans rfl, (blk_cell BK155.out 0).trans rfl, (blk_cell BK155.out 1).trans rfl⟩ (fun hHeld => ?_); refine with_tabW wardenref03_Bits.tab5 wardenref03_Bits.bits5 (fun HT_ HW_ => ?_)
      generalize wr.drew = w18 at BK154 BK155 BK156 BK157 HB hHeld ⊢
      refine pure_ (i := 1) (N := some 18) (v := ?_) (a' := ?_) (ar 8 2) rfl rfl (any_of HT_.out (by kernel_rfl)) (fun _ _ _ h => h) (Or.inl ⟨by rfl, ?_⟩) ?_ ?_
      rotate_left
      ·intro w'
       go_simp
       with_reducible rfl
      rotate_left
      ·simp only [Act.put, q1, q2, q3, i64_w, i32_w]
       rfl
      refine pure_ (i := 4) (N := some 21) (v := ?_) (a' := ?_) (ar 8 18) rfl rfl (any_of HT_.out (by kernel_rfl)) (fun _ _ _ h => h) (Or.inl ⟨by rfl, ?_⟩) ?_ ?_
      rotate_left
      ·intro w'
       go_simp
       with_reducible rfl
      rotate_left
      ·simp only [Act.put, q1, q2, q3, i64_w, i32_w]
       rfl
      refine take_ (i := 0) (N := some 17) (v := ?_) (a' := ?_) (ar 8 19) rfl rfl (take_ofW HT_.out HW_.out (by kernel_rfl)) (fun _ _ _ h => h) (Or.inl ⟨by rfl, ?_⟩) hHeld ?_ ?_
      rotate_left
      ·rintro w' ⟨s0, s1, s2, s3⟩
       go_simp
       with_reducible rfl
      rotate_left
      ·simp only [Act.put, q1, q2, q3, i64_w, i32_w]
       rfl
      refine take_ (i := 3) (N := some 20) (v := ?_) (a' := ?_) (ar 8 27) rfl rfl (take_ofW HT_.out HW_.out (by kernel_rfl)) (fun _ _ _ h => h) (Or.inl ⟨by rfl, ?_⟩) hHeld ?_ ?_
      rotate_left
      ·rintro w' ⟨s0, s1, s2, s3⟩
       go_simp
       with_reducible rfl
      rotate_left
      ·simp only [Act.put, q1, q2, q3, i64_w, i32_w]
       rfl
      refine one_ (i := 2) (N := some 19) (ar 8 31) rfl rfl (one_of HT_.out (by kernel_rfl)) (by decide) (fun K hK => ?_)
      refine goes_ Try.func40 (by kernel_rfl) rfl #[.agg #[.int .u64 a0_0, .int .u64 a0_1], .int .i64 x8_1] (by rfl) rfl rfl (by (try simp only [List.map_toArray, List.map_cons, List.map_nil]); first | done | rfl) ?_
      with_reducible refine (wardenref03_bit.calls a0_0 a0_1 x8_1 t158 _ A13.out).mono ?_
      rintro e w19 ⟨rfl, hb⟩
      refine ⟨_, rfl, ?_⟩
      have n0_ := am (blk_below BK154.out hb)
      have n1_ := am (blk_below BK155.out hb)
      have n2_ := am (blk_below BK156.out hb)
      have n3_ := am (blk_below BK157.out hb)
      have n4_ := am (below_step (by repeat (first | exact HB.out | refine below_set ?_ GE154.out | refine below_set ?_ GE155.out | refine below_set ?_ GE156.out | refine below_set ?_ GE157.out)) hb)
      clear BK154
      clear BK155
      clear BK156
      clear BK157
      clear HB
      have BK154 := n0_
      have BK155 := n1_
      have BK156 := n2_
      have BK157 := n3_
      have HB := n4_
      clear n0_ n1_ n2_ n3_ n4_
      (try clear hb)
      (try clear hb2)
      (try clear hk)
      (try clear hi)
      refine hK.out _ _ ⟨(blk_cell BK154.out 0).trans rfl, (blk_cell BK154.out 1).trans rfl, (blk_cell BK155.out 0).trans rfl, (blk_cell BK155.out 1).trans rfl⟩ (fun hHeld => ?_)
      clear hK K
      refine norm_ (a' := ?_) ?_ ?_
      rotate_left
      ·show Act.put _ (some 19) _ = _
       simp only [Act.put, q1, q2, q3, i64_w, i32_w]
       rfl
      refine one_ (i := 5) (N := some 22) (ar 8 63) rfl rfl (one_of HT_.out (by kernel_rfl)) (by decide) (fun K hK => ?_)
      refine goes_ Try.func40 (by kernel_rfl) rfl #[.agg #[.int .u64 a1_0, .int .u64 a1_1], .int .i64 x8_1] (by rfl) rfl rfl (by (try simp only [List.map_toArray, List.map_cons, List.map_nil]); first | done | rfl) ?_
      with_reducible refine (wardenref03_bit.calls a1_0 a1_1 x8_1 t159 _ A14.out).mono ?_
      rintro e w20 ⟨rfl, hb⟩
      refine ⟨_, rfl, ?_⟩
      have n0_ := am (blk_below BK154.out hb)
      have n1_ := am (blk_below BK155.out hb)
      have n2_ := am (blk_below BK156.out hb)
      have n3_ := am (blk_below BK157.out hb)
      have n4_ := am (below_step (by repeat (first | exact HB.out | refine below_set ?_ GE154.out | refine below_set ?_ GE155.out | refine below_set ?_ GE156.out | refine below_set ?_ GE157.out)) hb)
      clear BK154
      clear BK155
      clear BK156
      clear BK157
      clear HB
      have BK154 := n0_
      have BK155 := n1_
      have BK156 := n2_
      have BK157 := n3_
      have HB := n4_
      clear n0_ n1_ n2_ n3_ n4_
      (try clear hb)
      (try clear hb2)
      (try clear hk)
      (try clear hi)
      refine hK.out _ _ ⟨(blk_cell BK154.out 0).trans rfl, (blk_cell BK154.out 1).trans rfl, (blk_cell BK155.out 0).trans rfl, (blk_cell BK155.out 1).trans rfl⟩ (fun hHeld => ?_)
      clear hK K
      refine norm_ (a' := ?_) ?_ ?_
      rotate_left
      ·show Act.put _ (some 22) _ = _
       simp only [Act.put, q1, q2, q3, i64_w, i32_w]
       rfl
      refine pure_ (i := 6) (N := some 9) (v := ?_) (a' := ?_) (ar 8 127) rfl rfl (any_of HT_.out (by kernel_rfl)) (fun _ _ _ h => h) (Or.inl ⟨by rfl, ?_⟩) ?_ ?_
      rotate_left
      ·intro w'
       go_simp
       with_reducible rfl
      rotate_left
      ·simp only [Act.put, q1, q2, q3, i64_w, i32_w]
       rfl
      refine pure_ (i := 7) (N := some 10) (v := ?_) (a' := ?_) (ar 8 255) rfl rfl (any_of HT_.out (by kernel_rfl)) (fun _ _ _ h => h) (Or.inl ⟨by rfl, ?_⟩) ?_ ?_
      rotate_left
      ·intro w'
       go_simp
       with_reducible rfl
      rotate_left
      ·simp only [Act.put, q1, q2, q3, i64_w, i32_w]
       rfl
      refine done_ (done_of HT_.out (by kernel_rfl)) ?_
      have hnb21 := NB157_154.out
      have hnc21 := NB154_157.out
      have hnb22 := NB157_155.out
      have hnc22 := NB155_157.out
      have hnb23 := NB157_156.out
      have hnc23 := NB156_157.out
      have hcz24_0 : w20.cell? ⟨gb157, 0, none⟩ = some (.int .u64 x158000_1) := (blk_cell BK157.out 0).trans rfl
      have hcz24_1 : w20.cell? ⟨gb157, 1, none⟩ = some (.int .u64 x158001_1) := (blk_cell BK157.out 1).trans rfl
      have hfz24_0 := blk_frozen BK157.out 0
      have hfz24_1 := blk_frozen BK157.out 1
      try go_wp2_with (first | ((with_reducible refine gate_callee (f := 41) rfl ?_); refine goesL_ (some 72) rfl rfl Try.func41 (by kernel_rfl) rfl #[.agg #[.int .u64 x158000_1, .int .u64 x158001_1], .int .i64 x8_1, .int .i64 t158] rfl (by (try simp only [List.map_toArray, List.map_cons, List.map_nil]); first | done | rfl) ?_; (with_reducible refine (wardenref03_put.calls x158000_1 x158001_1 x8_1 t158 t160 t161 _ A17.out).mono ?_); rintro e w25 ⟨rfl, hb⟩; refine ⟨_, rfl, ?_⟩; have n0_ := am (blk_below BK154.out hb); have n1_ := am (blk_below BK155.out hb); have n2_ := am (blk_below BK156.out hb); have n3_ := am (blk_below BK157.out hb); have n4_ := am (below_step (by repeat (first | exact HB.out | refine below_set ?_ GE154.out | refine below_set ?_ GE155.out | refine below_set ?_ GE156.out | refine below_set ?_ GE157.out)) hb); clear BK154; clear BK155; clear BK156; clear BK157; clear HB; have BK154 := n0_; have BK155 := n1_; have BK156 := n2_; have BK157 := n3_; have HB := n4_; clear n0_ n1_ n2_ n3_ n4_; (try clear hb); (try clear hb2); (try clear hk); (try clear hi); have hcz26_0 : w25.cell? ⟨gb157, 0, none⟩ = some (.int .u64 x158000_1) := (blk_cell BK157.out 0).trans rfl; have hcz26_1 : w25.cell? ⟨gb157, 1, none⟩ = some (.int .u64 x158001_1) := (blk_cell BK157.out 1).trans rfl; have hfz26_0 := blk_frozen BK157.out 0; have hfz26_1 := blk_frozen BK157.out 1))
      go_roundg k1
      case measure => have := HK1.out; omega
      case rel => exact ⟨(wrap64 (x8_1 + 1)), (t160), (t161), (by first | rfl | (simp; done) | (simp [*]; done)), H', ⟨by have := HK1.out; omega⟩, ⟨by (with_reducible repeat (first | refine blk_drewN ?_ _ | refine blk_drew ?_ | refine blk_alloc ?_ _)); refine blk_far ?_ NB154_157.out _; (with_reducible repeat (first | refine blk_drewN ?_ _ | refine blk_drew ?_ | refine blk_alloc ?_ _)); refine blk_far ?_ NB154_157.out _; (with_reducible repeat (first | refine blk_drewN ?_ _ | refine blk_drew ?_ | refine blk_alloc ?_ _)); exact BK154.out⟩, ⟨by (with_reducible repeat (first | refine blk_drewN ?_ _ | refine blk_drew ?_ | refine blk_alloc ?_ _)); refine blk_far ?_ NB155_157.out _; (with_reducible repeat (first | refine blk_drewN ?_ _ | refine blk_drew ?_ | refine blk_alloc ?_ _)); refine blk_far ?_ NB155_157.out _; (with_reducible repeat (first | refine blk_drewN ?_ _ | refine blk_drew ?_ | refine blk_alloc ?_ _)); exact BK155.out⟩, ⟨by (with_reducible repeat (first | refine blk_drewN ?_ _ | refine blk_drew ?_ | refine blk_alloc ?_ _)); refine blk_far ?_ NB156_157.out _; (with_reducible repeat (first | refine blk_drewN ?_ _ | refine blk_drew ?_ | refine blk_alloc ?_ _)); refine blk_far ?_ NB156_157.out _; (with_reducible repeat (first | refine blk_drewN ?_ _ | refine blk_drew ?_ | refine blk_alloc ?_ _)); exact BK156.out⟩, ⟨by (with_reducible repeat (first | refine blk_drewN ?_ _ | refine blk_drew ?_ | refine blk_alloc ?_ _)); refine blk_put (cs := #[.int .u64 t160, .int .u64 x158001_1]) ?_ 1 _ rfl; (with_reducible repeat (first | refine blk_drewN ?_ _ | refine blk_drew ?_ | refine blk_alloc ?_ _)); refine blk_put (cs := #[.int .u64 x158000_1, .int .u64 x158001_1]) ?_ 0 _ rfl; (with_reducible repeat (first | refine blk_drewN ?_ _ | refine blk_drew ?_ | refine blk_alloc ?_ _)); exact BK157.out⟩, ⟨by repeat (first | (with_reducible first | exact HB.out | apply below_alloc | apply pw_below_drewN | apply below_drew1 | refine below_set ?_ GE154.out | refine below_set ?_ GE155.out | refine below_set ?_ GE156.out | refine below_set ?_ GE157.out) | exact HB.out)⟩⟩
     ·rw [if_neg c16] at H
      have c16b0 : (t158 == t159) = false := beq_eq_false_iff_ne.mpr c16
      have c16b1 : (t158 != t159) = true := bne_iff_ne.mpr c16
      replace H := Option.bind_eq_some_iff.mp H
      obtain ⟨⟨t162, t163⟩, A270, H⟩ := H
      replace H : (wardenref03_Bits.l0 k1 a2 (wrap64 (x8_1 + 1)) a0_0 a0_1 a1_0 a1_1 t162 t163) = some (r1, r2) := H
      have A27 := am A270
      clear A270
      have H' := am H
      clear H
      try go_wp2
      have n0_ := am (blk_drew BK154.out)
      have n1_ := am (blk_drew BK155.out)
      have n2_ := am (blk_drew BK156.out)
      have n3_ := am (blk_drew BK157.out)
      have n4_ := am (below_drew1 HB.out)
      clear BK154
      clear BK155
      clear BK156
      clear BK157
      clear HB
      have BK154 := n0_
      have BK155 := n1_
      have BK156 := n2_
      have BK157 := n3_
      have HB := n4_
      clear n0_ n1_ n2_ n3_ n4_
      refine start_ (n := 8) (S := fun w' => w'.cell? ⟨gb154, 0, none⟩ = some (.int .u64 a0_0) ∧ w'.cell? ⟨gb154, 1, none⟩ = some (.int .u64 a0_1) ∧ w'.cell? ⟨gb155, 0, none⟩ = some (.int .u64 a1_0) ∧ w'.cell? ⟨gb155, 1, none⟩ = some (.int .u64 a1_1)) (ds := []) (ar 8 0) (by kernel_rfl) rfl rfl ⟨(blk_cell BK154.out 0).trans rfl, (blk_cell BK154.out 1).trans rfl, (blk_cell BK155.out 0).trans rfl, (blk_cell BK155.out 1).trans rfl⟩ (fun hHeld => ?_); refine with_tabW wardenref03_Bits.tab5 wardenref03_Bits.bits5 (fun HT_ HW_ => ?_)
      generalize wr.drew = w28 at BK154 BK155 BK156 BK157 HB hHeld ⊢
      refine pure_ (i := 1) (N := some 18) (v := ?_) (a' := ?_) (ar 8 2) rfl rfl (any_of HT_.out (by kernel_rfl)) (fun _ _ _ h => h) (Or.inl ⟨by rfl, ?_⟩) ?_ ?_
      rotate_left
      ·intro w'
       go_simp
       with_reducible rfl
      rotate_left
      ·simp only [Act.put, q1, q2, q3, i64_w, i32_w]
       rfl
      refine pure_ (i := 4) (N := some 21) (v := ?_) (a' := ?_) (ar 8 18) rfl rfl (any_of HT_.out (by kernel_rfl)) (fun _ _ _ h => h) (Or.inl ⟨by rfl, ?_⟩) ?_ ?_
      rotate_left
      ·intro w'
       go_simp
       with_reducible rfl
      rotate_left
      ·simp only [Act.put, q1, q2, q3, i64_w, i32_w]
       rfl
      refine take_ (i := 0) (N := some 17) (v := ?_) (a' := ?_) (ar 8 19) rfl rfl (take_ofW HT_.out HW_.out (by kernel_rfl)) (fun _ _ _ h => h) (Or.inl ⟨by rfl, ?_⟩) hHeld ?_ ?_
      rotate_left
      ·rintro w' ⟨s0, s1, s2, s3⟩
       go_simp
       with_reducible rfl
      rotate_left
      ·simp only [Act.put, q1, q2, q3, i64_w, i32_w]
       rfl
      refine take_ (i := 3) (N := some 20) (v := ?_) (a' := ?_) (ar 8 27) rfl rfl (take_ofW HT_.out HW_.out (by kernel_rfl)) (fun _ _ _ h => h) (Or.inl ⟨by rfl, ?_⟩) hHeld ?_ ?_
      rotate_left
      ·rintro w' ⟨s0, s1, s2, s3⟩
       go_simp
       with_reducible rfl
      rotate_left
      ·simp only [Act.put, q1, q2, q3, i64_w, i32_w]
       rfl
      refine one_ (i := 2) (N := some 19) (ar 8 31) rfl rfl (one_of HT_.out (by kernel_rfl)) (by decide) (fun K hK => ?_)
      refine goes_ Try.func40 (by kernel_rfl) rfl #[.agg #[.int .u64 a0_0, .int .u64 a0_1], .int .i64 x8_1] (by rfl) rfl rfl (by (try simp only [List.map_toArray, List.map_cons, List.map_nil]); first | done | rfl) ?_
      with_reducible refine (wardenref03_bit.calls a0_0 a0_1 x8_1 t158 _ A13.out).mono ?_
      rintro e w29 ⟨rfl, hb⟩
      refine ⟨_, rfl, ?_⟩
      have n0_ := am (blk_below BK154.out hb)
      have n1_ := am (blk_below BK155.out hb)
      have n2_ := am (blk_below BK156.out hb)
      have n3_ := am (blk_below BK157.out hb)
      have n4_ := am (below_step (by repeat (first | exact HB.out | refine below_set ?_ GE154.out | refine below_set ?_ GE155.out | refine below_set ?_ GE156.out | refine below_set ?_ GE157.out)) hb)
      clear BK154
      clear BK155
      clear BK156
      clear BK157
      clear HB
      have BK154 := n0_
      have BK155 := n1_
      have BK156 := n2_
      have BK157 := n3_
      have HB := n4_
      clear n0_ n1_ n2_ n3_ n4_
      (try clear hb)
      (try clear hb2)
      (try clear hk)
      (try clear hi)
      refine hK.out _ _ ⟨(blk_cell BK154.out 0).trans rfl, (blk_cell BK154.out 1).trans rfl, (blk_cell BK155.out 0).trans rfl, (blk_cell BK155.out 1).trans rfl⟩ (fun hHeld => ?_)
      clear hK K
      refine norm_ (a' := ?_) ?_ ?_
      rotate_left
      ·show Act.put _ (some 19) _ = _
       simp only [Act.put, q1, q2, q3, i64_w, i32_w]
       rfl
      refine one_ (i := 5) (N := some 22) (ar 8 63) rfl rfl (one_of HT_.out (by kernel_rfl)) (by decide) (fun K hK => ?_)
      refine goes_ Try.func40 (by kernel_rfl) rfl #[.agg #[.int .u64 a1_0, .int .u64 a1_1], .int .i64 x8_1] (by rfl) rfl rfl (by (try simp only [List.map_toArray, List.map_cons, List.map_nil]); first | done | rfl) ?_
      with_reducible refine (wardenref03_bit.calls a1_0 a1_1 x8_1 t159 _ A14.out).mono ?_
      rintro e w30 ⟨rfl, hb⟩
      refine ⟨_, rfl, ?_⟩
      have n0_ := am (blk_below BK154.out hb)
      have n1_ := am (blk_below BK155.out hb)
      have n2_ := am (blk_below BK156.out hb)
      have n3_ := am (blk_below BK157.out hb)
      have n4_ := am (below_step (by repeat (first | exact HB.out | refine below_set ?_ GE154.out | refine below_set ?_ GE155.out | refine below_set ?_ GE156.out | refine below_set ?_ GE157.out)) hb)
      clear BK154
      clear BK155
      clear BK156
      clear BK157
      clear HB
      have BK154 := n0_
      have BK155 := n1_
      have BK156 := n2_
      have BK157 := n3_
      have HB := n4_
      clear n0_ n1_ n2_ n3_ n4_
      (try clear hb)
      (try clear hb2)
      (try clear hk)
      (try clear hi)
      refine hK.out _ _ ⟨(blk_cell BK154.out 0).trans rfl, (blk_cell BK154.out 1).trans rfl, (blk_cell BK155.out 0).trans rfl, (blk_cell BK155.out 1).trans rfl⟩ (fun hHeld => ?_)
      clear hK K
      refine norm_ (a' := ?_) ?_ ?_
      rotate_left
      ·show Act.put _ (some 22) _ = _
       simp only [Act.put, q1, q2, q3, i64_w, i32_w]
       rfl
      refine pure_ (i := 6) (N := some 9) (v := ?_) (a' := ?_) (ar 8 127) rfl rfl (any_of HT_.out (by kernel_rfl)) (fun _ _ _ h => h) (Or.inl ⟨by rfl, ?_⟩) ?_ ?_
      rotate_left
      ·intro w'
       go_simp
       with_reducible rfl
      rotate_left
      ·simp only [Act.put, q1, q2, q3, i64_w, i32_w]
       rfl
      refine pure_ (i := 7) (N := some 10) (v := ?_) (a' := ?_) (ar 8 255) rfl rfl (any_of HT_.out (by kernel_rfl)) (fun _ _ _ h => h) (Or.inl ⟨by rfl, ?_⟩) ?_ ?_
      rotate_left
      ·intro w'
       go_simp
       with_reducible rfl
      rotate_left
      ·simp only [Act.put, q1, q2, q3, i64_w, i32_w]
       rfl
      refine done_ (done_of HT_.out (by kernel_rfl)) ?_
      have hnb31 := NB157_154.out
      have hnc31 := NB154_157.out
      have hnb32 := NB157_155.out
      have hnc32 := NB155_157.out
      have hnb33 := NB157_156.out
      have hnc33 := NB156_157.out
      have hcz34_0 : w30.cell? ⟨gb157, 0, none⟩ = some (.int .u64 x158000_1) := (blk_cell BK157.out 0).trans rfl
      have hcz34_1 : w30.cell? ⟨gb157, 1, none⟩ = some (.int .u64 x158001_1) := (blk_cell BK157.out 1).trans rfl
      have hfz34_0 := blk_frozen BK157.out 0
      have hfz34_1 := blk_frozen BK157.out 1
      try go_wp2_with (first | ((with_reducible refine gate_callee (f := 41) rfl ?_); refine goesL_ (some 72) rfl rfl Try.func41 (by kernel_rfl) rfl #[.agg #[.int .u64 x158000_1, .int .u64 x158001_1], .int .i64 x8_1, .int .i64 2] rfl (by (try simp only [List.map_toArray, List.map_cons, List.map_nil]); first | done | rfl) ?_; (with_reducible refine (wardenref03_put.calls x158000_1 x158001_1 x8_1 2 t162 t163 _ A27.out).mono ?_); rintro e w35 ⟨rfl, hb⟩; refine ⟨_, rfl, ?_⟩; have n0_ := am (blk_below BK154.out hb); have n1_ := am (blk_below BK155.out hb); have n2_ := am (blk_below BK156.out hb); have n3_ := am (blk_below BK157.out hb); have n4_ := am (below_step (by repeat (first | exact HB.out | refine below_set ?_ GE154.out | refine below_set ?_ GE155.out | refine below_set ?_ GE156.out | refine below_set ?_ GE157.out)) hb); clear BK154; clear BK155; clear BK156; clear BK157; clear HB; have BK154 := n0_; have BK155 := n1_; have BK156 := n2_; have BK157 := n3_; have HB := n4_; clear n0_ n1_ n2_ n3_ n4_; (try clear hb); (try clear hb2); (try clear hk); (try clear hi); have hcz36_0 : w35.cell? ⟨gb157, 0, none⟩ = some (.int .u64 x158000_1) := (blk_cell BK157.out 0).trans rfl; have hcz36_1 : w35.cell? ⟨gb157, 1, none⟩ = some (.int .u64 x158001_1) := (blk_cell BK157.out 1).trans rfl; have hfz36_0 := blk_frozen BK157.out 0; have hfz36_1 := blk_frozen BK157.out 1))
      go_roundg k1
      case measure => have := HK1.out; omega
      case rel => exact ⟨(wrap64 (x8_1 + 1)), (t162), (t163), (by first | rfl | (simp; done) | (simp [*]; done)), H', ⟨by have := HK1.out; omega⟩, ⟨by (with_reducible repeat (first | refine blk_drewN ?_ _ | refine blk_drew ?_ | refine blk_alloc ?_ _)); refine blk_far ?_ NB154_157.out _; (with_reducible repeat (first | refine blk_drewN ?_ _ | refine blk_drew ?_ | refine blk_alloc ?_ _)); refine blk_far ?_ NB154_157.out _; (with_reducible repeat (first | refine blk_drewN ?_ _ | refine blk_drew ?_ | refine blk_alloc ?_ _)); exact BK154.out⟩, ⟨by (with_reducible repeat (first | refine blk_drewN ?_ _ | refine blk_drew ?_ | refine blk_alloc ?_ _)); refine blk_far ?_ NB155_157.out _; (with_reducible repeat (first | refine blk_drewN ?_ _ | refine blk_drew ?_ | refine blk_alloc ?_ _)); refine blk_far ?_ NB155_157.out _; (with_reducible repeat (first | refine blk_drewN ?_ _ | refine blk_drew ?_ | refine blk_alloc ?_ _)); exact BK155.out⟩, ⟨by (with_reducible repeat (first | refine blk_drewN ?_ _ | refine blk_drew ?_ | refine blk_alloc ?_ _)); refine blk_far ?_ NB156_157.out _; (with_reducible repeat (first | refine blk_drewN ?_ _ | refine blk_drew ?_ | refine blk_alloc ?_ _)); refine blk_far ?_ NB156_157.out _; (with_reducible repeat (first | refine blk_drewN ?_ _ | refine blk_drew ?_ | refine blk_alloc ?_ _)); exact BK156.out⟩, ⟨by (with_reducible repeat (first | refine blk_drewN ?_ _ | refine blk_drew ?_ | refine blk_alloc ?_ _)); refine blk_put (cs := #[.int .u64 t162, .int .u64 x158001_1]) ?_ 1 _ rfl; (with_reducible repeat (first | refine blk_drewN ?_ _ | refine blk_drew ?_ | refine blk_alloc ?_ _)); refine blk_put (cs := #[.int .u64 x158000_1, .int .u64 x158001_1]) ?_ 0 _ rfl; (with_reducible repeat (first | refine blk_drewN ?_ _ | refine blk_drew ?_ | refine blk_alloc ?_ _)); exact BK157.out⟩, ⟨by repeat (first | (with_reducible first | exact HB.out | apply below_alloc | apply pw_below_drewN | apply below_drew1 | refine below_set ?_ GE154.out | refine below_set ?_ GE155.out | refine below_set ?_ GE156.out | refine below_set ?_ GE157.out) | exact HB.out)⟩⟩
    ·rw [if_neg c15] at H
     have c15b0 : (a2 == 0) = false := beq_eq_false_iff_ne.mpr c15
     have c15b1 : (a2 != 0) = true := bne_iff_ne.mpr c15
     by_cases c37 : a2 = 1
     ·rw [if_pos c37] at H
      have c37b0 : (a2 == 1) = true := beq_iff_eq.mpr c37
      have c37b1 : (a2 != 1) = false := bne_eq_false_iff_eq.mpr c37
      clear c37
      have HC38 := am H
      clear H
      try go_wp2
      have n0_ := am (blk_drew BK154.out)
      have n1_ := am (blk_drew BK155.out)
      have n2_ := am (blk_drew BK156.out)
      have n3_ := am (blk_drew BK157.out)
      have n4_ := am (below_drew1 HB.out)
      clear BK154
      clear BK155
      clear BK156
      clear BK157
      clear HB
      have BK154 := n0_
      have BK155 := n1_
      have BK156 := n2_
      have BK157 := n3_
      have HB := n4_
      clear n0_ n1_ n2_ n3_ n4_
      refine start_ (n := 8) (S := fun w' => w'.cell? ⟨gb154, 0, none⟩ = some (.int .u64 a0_0) ∧ w'.cell? ⟨gb154, 1, none⟩ = some (.int .u64 a0_1) ∧ w'.cell? ⟨gb155, 0, none⟩ = some (.int .u64 a1_0) ∧ w'.cell? ⟨gb155, 1, none⟩ = some (.int .u64 a1_1)) (ds := []) (ar 8 0) (by kernel_rfl) rfl rfl ⟨(blk_cell BK154.out 0).trans rfl, (blk_cell BK154.out 1).trans rfl, (blk_cell BK155.out 0).trans rfl, (blk_cell BK155.out 1).trans rfl⟩ (fun hHeld => ?_); refine with_tabW wardenref03_Bits.tab5 wardenref03_Bits.bits5 (fun HT_ HW_ => ?_)
      generalize wr.drew = w39 at BK154 BK155 BK156 BK157 HB hHeld ⊢
      refine pure_ (i := 1) (N := some 18) (v := ?_) (a' := ?_) (ar 8 2) rfl rfl (any_of HT_.out (by kernel_rfl)) (fun _ _ _ h => h) (Or.inl ⟨by rfl, ?_⟩) ?_ ?_
      rotate_left
      ·intro w'
       go_simp
       with_reducible rfl
      rotate_left
      ·simp only [Act.put, q1, q2, q3, i64_w, i32_w]
       rfl
      refine pure_ (i := 4) (N := some 21) (v := ?_) (a' := ?_) (ar 8 18) rfl rfl (any_of HT_.out (by kernel_rfl)) (fun _ _ _ h => h) (Or.inl ⟨by rfl, ?_⟩) ?_ ?_
      rotate_left
      ·intro w'
       go_simp
       with_reducible rfl
      rotate_left
      ·simp only [Act.put, q1, q2, q3, i64_w, i32_w]
       rfl
      refine take_ (i := 0) (N := some 17) (v := ?_) (a' := ?_) (ar 8 19) rfl rfl (take_ofW HT_.out HW_.out (by kernel_rfl)) (fun _ _ _ h => h) (Or.inl ⟨by rfl, ?_⟩) hHeld ?_ ?_
      rotate_left
      ·rintro w' ⟨s0, s1, s2, s3⟩
       go_simp
       with_reducible rfl
      rotate_left
      ·simp only [Act.put, q1, q2, q3, i64_w, i32_w]
       rfl
      refine take_ (i := 3) (N := some 20) (v := ?_) (a' := ?_) (ar 8 27) rfl rfl (take_ofW HT_.out HW_.out (by kernel_rfl)) (fun _ _ _ h => h) (Or.inl ⟨by rfl, ?_⟩) hHeld ?_ ?_
      rotate_left
      ·rintro w' ⟨s0, s1, s2, s3⟩
       go_simp
       with_reducible rfl
      rotate_left
      ·simp only [Act.put, q1, q2, q3, i64_w, i32_w]
       rfl
      refine one_ (i := 2) (N := some 19) (ar 8 31) rfl rfl (one_of HT_.out (by kernel_rfl)) (by decide) (fun K hK => ?_)
      refine goes_ Try.func40 (by kernel_rfl) rfl #[.agg #[.int .u64 a0_0, .int .u64 a0_1], .int .i64 x8_1] (by rfl) rfl rfl (by (try simp only [List.map_toArray, List.map_cons, List.map_nil]); first | done | rfl) ?_
      with_reducible refine (wardenref03_bit.calls a0_0 a0_1 x8_1 t158 _ A13.out).mono ?_
      rintro e w40 ⟨rfl, hb⟩
      refine ⟨_, rfl, ?_⟩
      have n0_ := am (blk_below BK154.out hb)
      have n1_ := am (blk_below BK155.out hb)
      have n2_ := am (blk_below BK156.out hb)
      have n3_ := am (blk_below BK157.out hb)
      have n4_ := am (below_step (by repeat (first | exact HB.out | refine below_set ?_ GE154.out | refine below_set ?_ GE155.out | refine below_set ?_ GE156.out | refine below_set ?_ GE157.out)) hb)
      clear BK154
      clear BK155
      clear BK156
      clear BK157
      clear HB
      have BK154 := n0_
      have BK155 := n1_
      have BK156 := n2_
      have BK157 := n3_
      have HB := n4_
      clear n0_ n1_ n2_ n3_ n4_
      (try clear hb)
      (try clear hb2)
      (try clear hk)
      (try clear hi)
      refine hK.out _ _ ⟨(blk_cell BK154.out 0).trans rfl, (blk_cell BK154.out 1).trans rfl, (blk_cell BK155.out 0).trans rfl, (blk_cell BK155.out 1).trans rfl⟩ (fun hHeld => ?_)
      clear hK K
      refine norm_ (a' := ?_) ?_ ?_
      rotate_left
      ·show Act.put _ (some 19) _ = _
       simp only [Act.put, q1, q2, q3, i64_w, i32_w]
       rfl
      refine one_ (i := 5) (N := some 22) (ar 8 63) rfl rfl (one_of HT_.out (by kernel_rfl)) (by decide) (fun K hK => ?_)
      refine goes_ Try.func40 (by kernel_rfl) rfl #[.agg #[.int .u64 a1_0, .int .u64 a1_1], .int .i64 x8_1] (by rfl) rfl rfl (by (try simp only [List.map_toArray, List.map_cons, List.map_nil]); first | done | rfl) ?_
      with_reducible refine (wardenref03_bit.calls a1_0 a1_1 x8_1 t159 _ A14.out).mono ?_
      rintro e w41 ⟨rfl, hb⟩
      refine ⟨_, rfl, ?_⟩
      have n0_ := am (blk_below BK154.out hb)
      have n1_ := am (blk_below BK155.out hb)
      have n2_ := am (blk_below BK156.out hb)
      have n3_ := am (blk_below BK157.out hb)
      have n4_ := am (below_step (by repeat (first | exact HB.out | refine below_set ?_ GE154.out | refine below_set ?_ GE155.out | refine below_set ?_ GE156.out | refine below_set ?_ GE157.out)) hb)
      clear BK154
      clear BK155
      clear BK156
      clear BK157
      clear HB
      have BK154 := n0_
      have BK155 := n1_
      have BK156 := n2_
      have BK157 := n3_
      have HB := n4_
      clear n0_ n1_ n2_ n3_ n4_
      (try clear hb)
      (try clear hb2)
      (try clear hk)
      (try clear hi)
      refine hK.out _ _ ⟨(blk_cell BK154.out 0).trans rfl, (blk_cell BK154.out 1).trans rfl, (blk_cell BK155.out 0).trans rfl, (blk_cell BK155.out 1).trans rfl⟩ (fun hHeld => ?_)
      clear hK K
      refine norm_ (a' := ?_) ?_ ?_
      rotate_left
      ·show Act.put _ (some 22) _ = _
       simp only [Act.put, q1, q2, q3, i64_w, i32_w]
       rfl
      refine pure_ (i := 6) (N := some 9) (v := ?_) (a' := ?_) (ar 8 127) rfl rfl (any_of HT_.out (by kernel_rfl)) (fun _ _ _ h => h) (Or.inl ⟨by rfl, ?_⟩) ?_ ?_
      rotate_left
      ·intro w'
       go_simp
       with_reducible rfl
      rotate_left
      ·simp only [Act.put, q1, q2, q3, i64_w, i32_w]
       rfl
      refine pure_ (i := 7) (N := some 10) (v := ?_) (a' := ?_) (ar 8 255) rfl rfl (any_of HT_.out (by kernel_rfl)) (fun _ _ _ h => h) (Or.inl ⟨by rfl, ?_⟩) ?_ ?_
      rotate_left
      ·intro w'
       go_simp
       with_reducible rfl
      rotate_left
      ·simp only [Act.put, q1, q2, q3, i64_w, i32_w]
       rfl
      refine done_ (done_of HT_.out (by kernel_rfl)) ?_
      go_upto_region 12 with (fail)
      go_cut [37] (fun v37 wc => ∃ (kq : Nat) (x37_37 : Bool), v37 = .bool x37_37 ∧ Aside0 (wardenref03_Bits.j1 kq a2 x8_1 t158 t159 2 x37_37 a0_0 a0_1 a1_0 a1_1 x158000_1 x158001_1 = some (r1, r2)) ∧ Aside0 (kq ≤ k1) ∧ Aside0 (wc.heap[gb154]? = some (.cells #[.int .u64 a0_0, .int .u64 a0_1] 24 (0, 0))) ∧ Aside0 (wc.heap[gb155]? = some (.cells #[.int .u64 a1_0, .int .u64 a1_1] 24 (0, 0))) ∧ Aside0 (wc.heap[gb156]? = some (.cells #[.int .u64 0, .int .u64 0] 24 (0, 0))) ∧ Aside0 (wc.heap[gb157]? = some (.cells #[.int .u64 x158000_1, .int .u64 x158001_1] 24 (0, 0))) ∧ Aside0 (Below w.heap.size w wc))
      case first =>
       have H := HC38.out
       clear HC38
       by_cases c42 : t158 = 0
       ·rw [if_pos c42] at H
        have c42b0 : (t158 == 0) = true := beq_iff_eq.mpr c42
        have c42b1 : (t158 != 0) = false := bne_eq_false_iff_eq.mpr c42
        clear c42
        (first | rw [c42b0] | (simp only [i64_w, i32_w]; rw [c42b0]) | skip)
        have H' := am H
        clear H
        go_wp2
        go_meet
        case rel => exact ⟨_, (true), (by first | rfl | (simp; done) | (simp [*]; done)), H', ⟨by have := HK1.out; first | omega | exact Nat.le_refl _⟩, ⟨by (with_reducible repeat (first | refine blk_drewN ?_ _ | refine blk_drew ?_ | refine blk_alloc ?_ _)); exact BK154.out⟩, ⟨by (with_reducible repeat (first | refine blk_drewN ?_ _ | refine blk_drew ?_ | refine blk_alloc ?_ _)); exact BK155.out⟩, ⟨by (with_reducible repeat (first | refine blk_drewN ?_ _ | refine blk_drew ?_ | refine blk_alloc ?_ _)); exact BK156.out⟩, ⟨by (with_reducible repeat (first | refine blk_drewN ?_ _ | refine blk_drew ?_ | refine blk_alloc ?_ _)); exact BK157.out⟩, ⟨by repeat (first | (with_reducible first | exact HB.out | apply below_alloc | apply pw_below_drewN | apply below_drew1 | refine below_set ?_ GE154.out | refine below_set ?_ GE155.out | refine below_set ?_ GE156.out | refine below_set ?_ GE157.out) | exact HB.out)⟩⟩
       ·rw [if_neg c42] at H
        have c42b0 : (t158 == 0) = false := beq_eq_false_iff_ne.mpr c42
        have c42b1 : (t158 != 0) = true := bne_iff_ne.mpr c42
        (first | rw [c42b0] | (simp only [i64_w, i32_w]; rw [c42b0]) | skip)
        have H' := am H
        clear H
        go_wp2
        go_meet
        case rel => exact ⟨_, ((t159 == 0)), (by first | rfl | (simp; done) | (simp [*]; done)), H', ⟨by have := HK1.out; first | omega | exact Nat.le_refl _⟩, ⟨by (with_reducible repeat (first | refine blk_drewN ?_ _ | refine blk_drew ?_ | refine blk_alloc ?_ _)); exact BK154.out⟩, ⟨by (with_reducible repeat (first | refine blk_drewN ?_ _ | refine blk_drew ?_ | refine blk_alloc ?_ _)); exact BK155.out⟩, ⟨by (with_reducible repeat (first | refine blk_drewN ?_ _ | refine blk_drew ?_ | refine blk_alloc ?_ _)); exact BK156.out⟩, ⟨by (with_reducible repeat (first | refine blk_drewN ?_ _ | refine blk_drew ?_ | refine blk_alloc ?_ _)); exact BK157.out⟩, ⟨by repeat (first | (with_reducible first | exact HB.out | apply below_alloc | apply pw_below_drewN | apply below_drew1 | refine below_set ?_ GE154.out | refine below_set ?_ GE155.out | refine below_set ?_ GE156.out | refine below_set ?_ GE157.out) | exact HB.out)⟩⟩
      case rest =>
       clear HC38
       try clear c1
       try clear c2
       try clear p2
       try clear c3
       try clear c4
       try clear p6
       try clear c8
       try clear c9
       try clear c10
       try clear c12
       try clear c12b0
       try clear c15
       try clear c15b0
       try clear c15b1
       try clear c16
       try clear c16b0
       try clear c16b1
       try clear c21
       try clear c22
       try clear c23
       try clear c31
       try clear c32
       try clear c33
       try clear c37
       try clear c37b0
       try clear c37b1
       try clear c40
       try clear c41
       try clear c42
       try clear c42b0
       try clear c42b1
       try clear hcz11_0
       try clear hcz11_1
       try clear hcz24_0
       try clear hcz24_1
       try clear hcz26_0
       try clear hcz26_1
       try clear hcz34_0
       try clear hcz34_1
       try clear hcz36_0
       try clear hcz36_1
       try clear hfz11_0
       try clear hfz11_1
       try clear hfz24_0
       try clear hfz24_1
       try clear hfz26_0
       try clear hfz26_1
       try clear hfz34_0
       try clear hfz34_1
       try clear hfz36_0
       try clear hfz36_1
       try clear p2
       obtain ⟨kq, x37_37, rfl, HA, HJ37, BK154, BK155, BK156, BK157, HB⟩ := hcut
       cases kq with
       | zero => exact absurd HA.out (by simp [wardenref03_Bits.j1])
       | succ kj37 =>
        have H := HA.out
        clear HA
        simp only [wardenref03_Bits.j1] at H
        by_cases c43 : x37_37 = true
        ·subst c43
         have H1 : ((wardenref03_put.f x158000_1 x158001_1 x8_1 0).bind fun bt164 => (wardenref03_Bits.l0 kj37 a2 (wrap64 (x8_1 + 1)) a0_0 a0_1 a1_0 a1_1 bt164.1 bt164.2)) = some (r1, r2) := by rw [if_pos rfl] at H; exact H
         clear H
         have H := H1
         clear H1
         replace H := Option.bind_eq_some_iff.mp H
         obtain ⟨⟨t164, t165⟩, A440, H⟩ := H
         replace H : (wardenref03_Bits.l0 kj37 a2 (wrap64 (x8_1 + 1)) a0_0 a0_1 a1_0 a1_1 t164 t165) = some (r1, r2) := H
         have A44 := am A440
         clear A440
         have H' := am H
         clear H
         have hnb45 := NB157_154.out
         have hnc45 := NB154_157.out
         have hnb46 := NB157_155.out
         have hnc46 := NB155_157.out
         have hnb47 := NB157_156.out
         have hnc47 := NB156_157.out
         have hcz48_0 : wc.cell? ⟨gb157, 0, none⟩ = some (.int .u64 x158000_1) := (blk_cell BK157.out 0).trans rfl
         have hcz48_1 : wc.cell? ⟨gb157, 1, none⟩ = some (.int .u64 x158001_1) := (blk_cell BK157.out 1).trans rfl
         have hfz48_0 := blk_frozen BK157.out 0
         have hfz48_1 := blk_frozen BK157.out 1
         go_wp2_with (first | ((with_reducible refine gate_callee (f := 41) rfl ?_); refine goesL_ (some 72) rfl rfl Try.func41 (by kernel_rfl) rfl #[.agg #[.int .u64 x158000_1, .int .u64 x158001_1], .int .i64 x8_1, .int .i64 0] rfl (by (try simp only [List.map_toArray, List.map_cons, List.map_nil]); first | done | rfl) ?_; (with_reducible refine (wardenref03_put.calls x158000_1 x158001_1 x8_1 0 t164 t165 _ A44.out).mono ?_); rintro e w49 ⟨rfl, hb⟩; refine ⟨_, rfl, ?_⟩; have n0_ := am (blk_below BK154.out hb); have n1_ := am (blk_below BK155.out hb); have n2_ := am (blk_below BK156.out hb); have n3_ := am (blk_below BK157.out hb); have n4_ := am (below_step (by repeat (first | exact HB.out | refine below_set ?_ GE154.out | refine below_set ?_ GE155.out | refine below_set ?_ GE156.out | refine below_set ?_ GE157.out)) hb); clear BK154; clear BK155; clear BK156; clear BK157; clear HB; have BK154 := n0_; have BK155 := n1_; have BK156 := n2_; have BK157 := n3_; have HB := n4_; clear n0_ n1_ n2_ n3_ n4_; (try clear hb); (try clear hb2); (try clear hk); (try clear hi); have hcz50_0 : w49.cell? ⟨gb157, 0, none⟩ = some (.int .u64 x158000_1) := (blk_cell BK157.out 0).trans rfl; have hcz50_1 : w49.cell? ⟨gb157, 1, none⟩ = some (.int .u64 x158001_1) := (blk_cell BK157.out 1).trans rfl; have hfz50_0 := blk_frozen BK157.out 0; have hfz50_1 := blk_frozen BK157.out 1))
         go_roundg kj37
         case measure => have := HK1.out; have := HJ37.out; omega
         case rel => exact ⟨(wrap64 (x8_1 + 1)), (t164), (t165), (by first | rfl | (simp; done) | (simp [*]; done)), H', ⟨by have := HK1.out; have := HJ37.out; omega⟩, ⟨by (with_reducible repeat (first | refine blk_drewN ?_ _ | refine blk_drew ?_ | refine blk_alloc ?_ _)); refine blk_far ?_ NB154_157.out _; (with_reducible repeat (first | refine blk_drewN ?_ _ | refine blk_drew ?_ | refine blk_alloc ?_ _)); refine blk_far ?_ NB154_157.out _; (with_reducible repeat (first | refine blk_drewN ?_ _ | refine blk_drew ?_ | refine blk_alloc ?_ _)); exact BK154.out⟩, ⟨by (with_reducible repeat (first | refine blk_drewN ?_ _ | refine blk_drew ?_ | refine blk_alloc ?_ _)); refine blk_far ?_ NB155_157.out _; (with_reducible repeat (first | refine blk_drewN ?_ _ | refine blk_drew ?_ | refine blk_alloc ?_ _)); refine blk_far ?_ NB155_157.out _; (with_reducible repeat (first | refine blk_drewN ?_ _ | refine blk_drew ?_ | refine blk_alloc ?_ _)); exact BK155.out⟩, ⟨by (with_reducible repeat (first | refine blk_drewN ?_ _ | refine blk_drew ?_ | refine blk_alloc ?_ _)); refine blk_far ?_ NB156_157.out _; (with_reducible repeat (first | refine blk_drewN ?_ _ | refine blk_drew ?_ | refine blk_alloc ?_ _)); refine blk_far ?_ NB156_157.out _; (with_reducible repeat (first | refine blk_drewN ?_ _ | refine blk_drew ?_ | refine blk_alloc ?_ _)); exact BK156.out⟩, ⟨by (with_reducible repeat (first | refine blk_drewN ?_ _ | refine blk_drew ?_ | refine blk_alloc ?_ _)); refine blk_put (cs := #[.int .u64 t164, .int .u64 x158001_1]) ?_ 1 _ rfl; (with_reducible repeat (first | refine blk_drewN ?_ _ | refine blk_drew ?_ | refine blk_alloc ?_ _)); refine blk_put (cs := #[.int .u64 x158000_1, .int .u64 x158001_1]) ?_ 0 _ rfl; (with_reducible repeat (first | refine blk_drewN ?_ _ | refine blk_drew ?_ | refine blk_alloc ?_ _)); exact BK157.out⟩, ⟨by repeat (first | (with_reducible first | exact HB.out | apply below_alloc | apply pw_below_drewN | apply below_drew1 | refine below_set ?_ GE154.out | refine below_set ?_ GE155.out | refine below_set ?_ GE156.out | refine below_set ?_ GE157.out) | exact HB.out)⟩⟩
        ·replace c43 := Bool.eq_false_iff.mpr c43
         subst c43
         have H1 : (if t158 = 1 then (if t159 = 1 then ((wardenref03_put.f x158000_1 x158001_1 x8_1 1).bind fun bt166 => (wardenref03_Bits.l0 kj37 a2 (wrap64 (x8_1 + 1)) a0_0 a0_1 a1_0 a1_1 bt166.1 bt166.2)) else ((wardenref03_put.f x158000_1 x158001_1 x8_1 2).bind fun bt168 => (wardenref03_Bits.l0 kj37 a2 (wrap64 (x8_1 + 1)) a0_0 a0_1 a1_0 a1_1 bt168.1 bt168.2))) else ((wardenref03_put.f x158000_1 x158001_1 x8_1 2).bind fun bt170 => (wardenref03_Bits.l0 kj37 a2 (wrap64 (x8_1 + 1)) a0_0 a0_1 a1_0 a1_1 bt170.1 bt170.2))) = some (r1, r2) := by rw [if_neg (show ¬ (false = true) by decide)] at H; exact H
         clear H
         have H := H1
         clear H1
         by_cases c51 : t158 = 1
         ·rw [if_pos c51] at H
          have c51b0 : (t158 == 1) = true := beq_iff_eq.mpr c51
          have c51b1 : (t158 != 1) = false := bne_eq_false_iff_eq.mpr c51
          clear c51
          by_cases c52 : t159 = 1
          ·rw [if_pos c52] at H
           have c52b0 : (t159 == 1) = true := beq_iff_eq.mpr c52
           have c52b1 : (t159 != 1) = false := bne_eq_false_iff_eq.mpr c52
           clear c52
           replace H := Option.bind_eq_some_iff.mp H
           obtain ⟨⟨t166, t167⟩, A530, H⟩ := H
           replace H : (wardenref03_Bits.l0 kj37 a2 (wrap64 (x8_1 + 1)) a0_0 a0_1 a1_0 a1_1 t166 t167) = some (r1, r2) := H
           have A53 := am A530
           clear A530
           have H' := am H
           clear H
           have hnb54 := NB157_154.out
           have hnc54 := NB154_157.out
           have hnb55 := NB157_155.out
           have hnc55 := NB155_157.out
           have hnb56 := NB157_156.out
           have hnc56 := NB156_157.out
           have hcz57_0 : wc.cell? ⟨gb157, 0, none⟩ = some (.int .u64 x158000_1) := (blk_cell BK157.out 0).trans rfl
           have hcz57_1 : wc.cell? ⟨gb157, 1, none⟩ = some (.int .u64 x158001_1) := (blk_cell BK157.out 1).trans rfl
           have hfz57_0 := blk_frozen BK157.out 0
           have hfz57_1 := blk_frozen BK157.out 1
           go_wp2_with (first | ((with_reducible refine gate_callee (f := 41) rfl ?_); refine goesL_ (some 72) rfl rfl Try.func41 (by kernel_rfl) rfl #[.agg #[.int .u64 x158000_1, .int .u64 x158001_1], .int .i64 x8_1, .int .i64 1] rfl (by (try simp only [List.map_toArray, List.map_cons, List.map_nil]); first | done | rfl) ?_; (with_reducible refine (wardenref03_put.calls x158000_1 x158001_1 x8_1 1 t166 t167 _ A53.out).mono ?_); rintro e w58 ⟨rfl, hb⟩; refine ⟨_, rfl, ?_⟩; have n0_ := am (blk_below BK154.out hb); have n1_ := am (blk_below BK155.out hb); have n2_ := am (blk_below BK156.out hb); have n3_ := am (blk_below BK157.out hb); have n4_ := am (below_step (by repeat (first | exact HB.out | refine below_set ?_ GE154.out | refine below_set ?_ GE155.out | refine below_set ?_ GE156.out | refine below_set ?_ GE157.out)) hb); clear BK154; clear BK155; clear BK156; clear BK157; clear HB; have BK154 := n0_; have BK155 := n1_; have BK156 := n2_; have BK157 := n3_; have HB := n4_; clear n0_ n1_ n2_ n3_ n4_; (try clear hb); (try clear hb2); (try clear hk); (try clear hi); have hcz59_0 : w58.cell? ⟨gb157, 0, none⟩ = some (.int .u64 x158000_1) := (blk_cell BK157.out 0).trans rfl; have hcz59_1 : w58.cell? ⟨gb157, 1, none⟩ = some (.int .u64 x158001_1) := (blk_cell BK157.out 1).trans rfl; have hfz59_0 := blk_frozen BK157.out 0; have hfz59_1 := blk_frozen BK157.out 1))
           go_roundg kj37
           case measure => have := HK1.out; have := HJ37.out; omega
           case rel => exact ⟨(wrap64 (x8_1 + 1)), (t166), (t167), (by first | rfl | (simp; done) | (simp [*]; done)), H', ⟨by have := HK1.out; have := HJ37.out; omega⟩, ⟨by (with_reducible repeat (first | refine blk_drewN ?_ _ | refine blk_drew ?_ | refine blk_alloc ?_ _)); refine blk_far ?_ NB154_157.out _; (with_reducible repeat (first | refine blk_drewN ?_ _ | refine blk_drew ?_ | refine blk_alloc ?_ _)); refine blk_far ?_ NB154_157.out _; (with_reducible repeat (first | refine blk_drewN ?_ _ | refine blk_drew ?_ | refine blk_alloc ?_ _)); exact BK154.out⟩, ⟨by (with_reducible repeat (first | refine blk_drewN ?_ _ | refine blk_drew ?_ | refine blk_alloc ?_ _)); refine blk_far ?_ NB155_157.out _; (with_reducible repeat (first | refine blk_drewN ?_ _ | refine blk_drew ?_ | refine blk_alloc ?_ _)); refine blk_far ?_ NB155_157.out _; (with_reducible repeat (first | refine blk_drewN ?_ _ | refine blk_drew ?_ | refine blk_alloc ?_ _)); exact BK155.out⟩, ⟨by (with_reducible repeat (first | refine blk_drewN ?_ _ | refine blk_drew ?_ | refine blk_alloc ?_ _)); refine blk_far ?_ NB156_157.out _; (with_reducible repeat (first | refine blk_drewN ?_ _ | refine blk_drew ?_ | refine blk_alloc ?_ _)); refine blk_far ?_ NB156_157.out _; (with_reducible repeat (first | refine blk_drewN ?_ _ | refine blk_drew ?_ | refine blk_alloc ?_ _)); exact BK156.out⟩, ⟨by (with_reducible repeat (first | refine blk_drewN ?_ _ | refine blk_drew ?_ | refine blk_alloc ?_ _)); refine blk_put (cs := #[.int .u64 t166, .int .u64 x158001_1]) ?_ 1 _ rfl; (with_reducible repeat (first | refine blk_drewN ?_ _ | refine blk_drew ?_ | refine blk_alloc ?_ _)); refine blk_put (cs := #[.int .u64 x158000_1, .int .u64 x158001_1]) ?_ 0 _ rfl; (with_reducible repeat (first | refine blk_drewN ?_ _ | refine blk_drew ?_ | refine blk_alloc ?_ _)); exact BK157.out⟩, ⟨by repeat (first | (with_reducible first | exact HB.out | apply below_alloc | apply pw_below_drewN | apply below_drew1 | refine below_set ?_ GE154.out | refine below_set ?_ GE155.out | refine below_set ?_ GE156.out | refine below_set ?_ GE157.out) | exact HB.out)⟩⟩
          ·rw [if_neg c52] at H
           have c52b0 : (t159 == 1) = false := beq_eq_false_iff_ne.mpr c52
           have c52b1 : (t159 != 1) = true := bne_iff_ne.mpr c52
           replace H := Option.bind_eq_some_iff.mp H
           obtain ⟨⟨t168, t169⟩, A600, H⟩ := H
           replace H : (wardenref03_Bits.l0 kj37 a2 (wrap64 (x8_1 + 1)) a0_0 a0_1 a1_0 a1_1 t168 t169) = some (r1, r2) := H
           have A60 := am A600
           clear A600
           have H' := am H
           clear H
           have hnb61 := NB157_154.out
           have hnc61 := NB154_157.out
           have hnb62 := NB157_155.out
           have hnc62 := NB155_157.out
           have hnb63 := NB157_156.out
           have hnc63 := NB156_157.out
           have hcz64_0 : wc.cell? ⟨gb157, 0, none⟩ = some (.int .u64 x158000_1) := (blk_cell BK157.out 0).trans rfl
           have hcz64_1 : wc.cell? ⟨gb157, 1, none⟩ = some (.int .u64 x158001_1) := (blk_cell BK157.out 1).trans rfl
           have hfz64_0 := blk_frozen BK157.out 0
           have hfz64_1 := blk_frozen BK157.out 1
           go_wp2_with (first | ((with_reducible refine gate_callee (f := 41) rfl ?_); refine goesL_ (some 72) rfl rfl Try.func41 (by kernel_rfl) rfl #[.agg #[.int .u64 x158000_1, .int .u64 x158001_1], .int .i64 x8_1, .int .i64 2] rfl (by (try simp only [List.map_toArray, List.map_cons, List.map_nil]); first | done | rfl) ?_; (with_reducible refine (wardenref03_put.calls x158000_1 x158001_1 x8_1 2 t168 t169 _ A60.out).mono ?_); rintro e w65 ⟨rfl, hb⟩; refine ⟨_, rfl, ?_⟩; have n0_ := am (blk_below BK154.out hb); have n1_ := am (blk_below BK155.out hb); have n2_ := am (blk_below BK156.out hb); have n3_ := am (blk_below BK157.out hb); have n4_ := am (below_step (by repeat (first | exact HB.out | refine below_set ?_ GE154.out | refine below_set ?_ GE155.out | refine below_set ?_ GE156.out | refine below_set ?_ GE157.out)) hb); clear BK154; clear BK155; clear BK156; clear BK157; clear HB; have BK154 := n0_; have BK155 := n1_; have BK156 := n2_; have BK157 := n3_; have HB := n4_; clear n0_ n1_ n2_ n3_ n4_; (try clear hb); (try clear hb2); (try clear hk); (try clear hi); have hcz66_0 : w65.cell? ⟨gb157, 0, none⟩ = some (.int .u64 x158000_1) := (blk_cell BK157.out 0).trans rfl; have hcz66_1 : w65.cell? ⟨gb157, 1, none⟩ = some (.int .u64 x158001_1) := (blk_cell BK157.out 1).trans rfl; have hfz66_0 := blk_frozen BK157.out 0; have hfz66_1 := blk_frozen BK157.out 1))
           go_roundg kj37
           case measure => have := HK1.out; have := HJ37.out; omega
           case rel => exact ⟨(wrap64 (x8_1 + 1)), (t168), (t169), (by first | rfl | (simp; done) | (simp [*]; done)), H', ⟨by have := HK1.out; have := HJ37.out; omega⟩, ⟨by (with_reducible repeat (first | refine blk_drewN ?_ _ | refine blk_drew ?_ | refine blk_alloc ?_ _)); refine blk_far ?_ NB154_157.out _; (with_reducible repeat (first | refine blk_drewN ?_ _ | refine blk_drew ?_ | refine blk_alloc ?_ _)); refine blk_far ?_ NB154_157.out _; (with_reducible repeat (first | refine blk_drewN ?_ _ | refine blk_drew ?_ | refine blk_alloc ?_ _)); exact BK154.out⟩, ⟨by (with_reducible repeat (first | refine blk_drewN ?_ _ | refine blk_drew ?_ | refine blk_alloc ?_ _)); refine blk_far ?_ NB155_157.out _; (with_reducible repeat (first | refine blk_drewN ?_ _ | refine blk_drew ?_ | refine blk_alloc ?_ _)); refine blk_far ?_ NB155_157.out _; (with_reducible repeat (first | refine blk_drewN ?_ _ | refine blk_drew ?_ | refine blk_alloc ?_ _)); exact BK155.out⟩, ⟨by (with_reducible repeat (first | refine blk_drewN ?_ _ | refine blk_drew ?_ | refine blk_alloc ?_ _)); refine blk_far ?_ NB156_157.out _; (with_reducible repeat (first | refine blk_drewN ?_ _ | refine blk_drew ?_ | refine blk_alloc ?_ _)); refine blk_far ?_ NB156_157.out _; (with_reducible repeat (first | refine blk_drewN ?_ _ | refine blk_drew ?_ | refine blk_alloc ?_ _)); exact BK156.out⟩, ⟨by (with_reducible repeat (first | refine blk_drewN ?_ _ | refine blk_drew ?_ | refine blk_alloc ?_ _)); refine blk_put (cs := #[.int .u64 t168, .int .u64 x158001_1]) ?_ 1 _ rfl; (with_reducible repeat (first | refine blk_drewN ?_ _ | refine blk_drew ?_ | refine blk_alloc ?_ _)); refine blk_put (cs := #[.int .u64 x158000_1, .int .u64 x158001_1]) ?_ 0 _ rfl; (with_reducible repeat (first | refine blk_drewN ?_ _ | refine blk_drew ?_ | refine blk_alloc ?_ _)); exact BK157.out⟩, ⟨by repeat (first | (with_reducible first | exact HB.out | apply below_alloc | apply pw_below_drewN | apply below_drew1 | refine below_set ?_ GE154.out | refine below_set ?_ GE155.out | refine below_set ?_ GE156.out | refine below_set ?_ GE157.out) | exact HB.out)⟩⟩
         ·rw [if_neg c51] at H
          have c51b0 : (t158 == 1) = false := beq_eq_false_iff_ne.mpr c51
          have c51b1 : (t158 != 1) = true := bne_iff_ne.mpr c51
          replace H := Option.bind_eq_some_iff.mp H
          obtain ⟨⟨t170, t171⟩, A670, H⟩ := H
          replace H : (wardenref03_Bits.l0 kj37 a2 (wrap64 (x8_1 + 1)) a0_0 a0_1 a1_0 a1_1 t170 t171) = some (r1, r2) := H
          have A67 := am A670
          clear A670
          have H' := am H
          clear H
          have hnb68 := NB157_154.out
          have hnc68 := NB154_157.out
          have hnb69 := NB157_155.out
          have hnc69 := NB155_157.out
          have hnb70 := NB157_156.out
          have hnc70 := NB156_157.out
          have hcz71_0 : wc.cell? ⟨gb157, 0, none⟩ = some (.int .u64 x158000_1) := (blk_cell BK157.out 0).trans rfl
          have hcz71_1 : wc.cell? ⟨gb157, 1, none⟩ = some (.int .u64 x158001_1) := (blk_cell BK157.out 1).trans rfl
          have hfz71_0 := blk_frozen BK157.out 0
          have hfz71_1 := blk_frozen BK157.out 1
          go_wp2_with (first | ((with_reducible refine gate_callee (f := 41) rfl ?_); refine goesL_ (some 72) rfl rfl Try.func41 (by kernel_rfl) rfl #[.agg #[.int .u64 x158000_1, .int .u64 x158001_1], .int .i64 x8_1, .int .i64 2] rfl (by (try simp only [List.map_toArray, List.map_cons, List.map_nil]); first | done | rfl) ?_; (with_reducible refine (wardenref03_put.calls x158000_1 x158001_1 x8_1 2 t170 t171 _ A67.out).mono ?_); rintro e w72 ⟨rfl, hb⟩; refine ⟨_, rfl, ?_⟩; have n0_ := am (blk_below BK154.out hb); have n1_ := am (blk_below BK155.out hb); have n2_ := am (blk_below BK156.out hb); have n3_ := am (blk_below BK157.out hb); have n4_ := am (below_step (by repeat (first | exact HB.out | refine below_set ?_ GE154.out | refine below_set ?_ GE155.out | refine below_set ?_ GE156.out | refine below_set ?_ GE157.out)) hb); clear BK154; clear BK155; clear BK156; clear BK157; clear HB; have BK154 := n0_; have BK155 := n1_; have BK156 := n2_; have BK157 := n3_; have HB := n4_; clear n0_ n1_ n2_ n3_ n4_; (try clear hb); (try clear hb2); (try clear hk); (try clear hi); have hcz73_0 : w72.cell? ⟨gb157, 0, none⟩ = some (.int .u64 x158000_1) := (blk_cell BK157.out 0).trans rfl; have hcz73_1 : w72.cell? ⟨gb157, 1, none⟩ = some (.int .u64 x158001_1) := (blk_cell BK157.out 1).trans rfl; have hfz73_0 := blk_frozen BK157.out 0; have hfz73_1 := blk_frozen BK157.out 1))
          go_roundg kj37
          case measure => have := HK1.out; have := HJ37.out; omega
          case rel => exact ⟨(wrap64 (x8_1 + 1)), (t170), (t171), (by first | rfl | (simp; done) | (simp [*]; done)), H', ⟨by have := HK1.out; have := HJ37.out; omega⟩, ⟨by (with_reducible repeat (first | refine blk_drewN ?_ _ | refine blk_drew ?_ | refine blk_alloc ?_ _)); refine blk_far ?_ NB154_157.out _; (with_reducible repeat (first | refine blk_drewN ?_ _ | refine blk_drew ?_ | refine blk_alloc ?_ _)); refine blk_far ?_ NB154_157.out _; (with_reducible repeat (first | refine blk_drewN ?_ _ | refine blk_drew ?_ | refine blk_alloc ?_ _)); exact BK154.out⟩, ⟨by (with_reducible repeat (first | refine blk_drewN ?_ _ | refine blk_drew ?_ | refine blk_alloc ?_ _)); refine blk_far ?_ NB155_157.out _; (with_reducible repeat (first | refine blk_drewN ?_ _ | refine blk_drew ?_ | refine blk_alloc ?_ _)); refine blk_far ?_ NB155_157.out _; (with_reducible repeat (first | refine blk_drewN ?_ _ | refine blk_drew ?_ | refine blk_alloc ?_ _)); exact BK155.out⟩, ⟨by (with_reducible repeat (first | refine blk_drewN ?_ _ | refine blk_drew ?_ | refine blk_alloc ?_ _)); refine blk_far ?_ NB156_157.out _; (with_reducible repeat (first | refine blk_drewN ?_ _ | refine blk_drew ?_ | refine blk_alloc ?_ _)); refine blk_far ?_ NB156_157.out _; (with_reducible repeat (first | refine blk_drewN ?_ _ | refine blk_drew ?_ | refine blk_alloc ?_ _)); exact BK156.out⟩, ⟨by (with_reducible repeat (first | refine blk_drewN ?_ _ | refine blk_drew ?_ | refine blk_alloc ?_ _)); refine blk_put (cs := #[.int .u64 t170, .int .u64 x158001_1]) ?_ 1 _ rfl; (with_reducible repeat (first | refine blk_drewN ?_ _ | refine blk_drew ?_ | refine blk_alloc ?_ _)); refine blk_put (cs := #[.int .u64 x158000_1, .int .u64 x158001_1]) ?_ 0 _ rfl; (with_reducible repeat (first | refine blk_drewN ?_ _ | refine blk_drew ?_ | refine blk_alloc ?_ _)); exact BK157.out⟩, ⟨by repeat (first | (with_reducible first | exact HB.out | apply below_alloc | apply pw_below_drewN | apply below_drew1 | refine below_set ?_ GE154.out | refine below_set ?_ GE155.out | refine below_set ?_ GE156.out | refine below_set ?_ GE157.out) | exact HB.out)⟩⟩
     ·rw [if_neg c37] at H
      have c37b0 : (a2 == 1) = false := beq_eq_false_iff_ne.mpr c37
      have c37b1 : (a2 != 1) = true := bne_iff_ne.mpr c37
      by_cases c74 : a2 = 2
      ·rw [if_pos c74] at H
       have c74b0 : (a2 == 2) = true := beq_iff_eq.mpr c74
       have c74b1 : (a2 != 2) = false := bne_eq_false_iff_eq.mpr c74
       clear c74
       have HC75 := am H
       clear H
       try go_wp2
       have n0_ := am (blk_drew BK154.out)
       have n1_ := am (blk_drew BK155.out)
       have n2_ := am (blk_drew BK156.out)
       have n3_ := am (blk_drew BK157.out)
       have n4_ := am (below_drew1 HB.out)
       clear BK154
       clear BK155
       clear BK156
       clear BK157
       clear HB
       have BK154 := n0_
       have BK155 := n1_
       have BK156 := n2_
       have BK157 := n3_
       have HB := n4_
       clear n0_ n1_ n2_ n3_ n4_
       refine start_ (n := 8) (S := fun w' => w'.cell? ⟨gb154, 0, none⟩ = some (.int .u64 a0_0) ∧ w'.cell? ⟨gb154, 1, none⟩ = some (.int .u64 a0_1) ∧ w'.cell? ⟨gb155, 0, none⟩ = some (.int .u64 a1_0) ∧ w'.cell? ⟨gb155, 1, none⟩ = some (.int .u64 a1_1)) (ds := []) (ar 8 0) (by kernel_rfl) rfl rfl ⟨(blk_cell BK154.out 0).trans rfl, (blk_cell BK154.out 1).trans rfl, (blk_cell BK155.out 0).trans rfl, (blk_cell BK155.out 1).trans rfl⟩ (fun hHeld => ?_); refine with_tabW wardenref03_Bits.tab5 wardenref03_Bits.bits5 (fun HT_ HW_ => ?_)
       generalize wr.drew = w76 at BK154 BK155 BK156 BK157 HB hHeld ⊢
       refine pure_ (i := 1) (N := some 18) (v := ?_) (a' := ?_) (ar 8 2) rfl rfl (any_of HT_.out (by kernel_rfl)) (fun _ _ _ h => h) (Or.inl ⟨by rfl, ?_⟩) ?_ ?_
       rotate_left
       ·intro w'
        go_simp
        with_reducible rfl
       rotate_left
       ·simp only [Act.put, q1, q2, q3, i64_w, i32_w]
        rfl
       refine pure_ (i := 4) (N := some 21) (v := ?_) (a' := ?_) (ar 8 18) rfl rfl (any_of HT_.out (by kernel_rfl)) (fun _ _ _ h => h) (Or.inl ⟨by rfl, ?_⟩) ?_ ?_
       rotate_left
       ·intro w'
        go_simp
        with_reducible rfl
       rotate_left
       ·simp only [Act.put, q1, q2, q3, i64_w, i32_w]
        rfl
       refine take_ (i := 0) (N := some 17) (v := ?_) (a' := ?_) (ar 8 19) rfl rfl (take_ofW HT_.out HW_.out (by kernel_rfl)) (fun _ _ _ h => h) (Or.inl ⟨by rfl, ?_⟩) hHeld ?_ ?_
       rotate_left
       ·rintro w' ⟨s0, s1, s2, s3⟩
        go_simp
        with_reducible rfl
       rotate_left
       ·simp only [Act.put, q1, q2, q3, i64_w, i32_w]
        rfl
       refine take_ (i := 3) (N := some 20) (v := ?_) (a' := ?_) (ar 8 27) rfl rfl (take_ofW HT_.out HW_.out (by kernel_rfl)) (fun _ _ _ h => h) (Or.inl ⟨by rfl, ?_⟩) hHeld ?_ ?_
       rotate_left
       ·rintro w' ⟨s0, s1, s2, s3⟩
        go_simp
        with_reducible rfl
       rotate_left
       ·simp only [Act.put, q1, q2, q3, i64_w, i32_w]
        rfl
       refine one_ (i := 2) (N := some 19) (ar 8 31) rfl rfl (one_of HT_.out (by kernel_rfl)) (by decide) (fun K hK => ?_)
       refine goes_ Try.func40 (by kernel_rfl) rfl #[.agg #[.int .u64 a0_0, .int .u64 a0_1], .int .i64 x8_1] (by rfl) rfl rfl (by (try simp only [List.map_toArray, List.map_cons, List.map_nil]); first | done | rfl) ?_
       with_reducible refine (wardenref03_bit.calls a0_0 a0_1 x8_1 t158 _ A13.out).mono ?_
       rintro e w77 ⟨rfl, hb⟩
       refine ⟨_, rfl, ?_⟩
       have n0_ := am (blk_below BK154.out hb)
       have n1_ := am (blk_below BK155.out hb)
       have n2_ := am (blk_below BK156.out hb)
       have n3_ := am (blk_below BK157.out hb)
       have n4_ := am (below_step (by repeat (first | exact HB.out | refine below_set ?_ GE154.out | refine below_set ?_ GE155.out | refine below_set ?_ GE156.out | refine below_set ?_ GE157.out)) hb)
       clear BK154
       clear BK155
       clear BK156
       clear BK157
       clear HB
       have BK154 := n0_
       have BK155 := n1_
       have BK156 := n2_
       have BK157 := n3_
       have HB := n4_
       clear n0_ n1_ n2_ n3_ n4_
       (try clear hb)
       (try clear hb2)
       (try clear hk)
       (try clear hi)
       refine hK.out _ _ ⟨(blk_cell BK154.out 0).trans rfl, (blk_cell BK154.out 1).trans rfl, (blk_cell BK155.out 0).trans rfl, (blk_cell BK155.out 1).trans rfl⟩ (fun hHeld => ?_)
       clear hK K
       refine norm_ (a' := ?_) ?_ ?_
       rotate_left
       ·show Act.put _ (some 19) _ = _
        simp only [Act.put, q1, q2, q3, i64_w, i32_w]
        rfl
       refine one_ (i := 5) (N := some 22) (ar 8 63) rfl rfl (one_of HT_.out (by kernel_rfl)) (by decide) (fun K hK => ?_)
       refine goes_ Try.func40 (by kernel_rfl) rfl #[.agg #[.int .u64 a1_0, .int .u64 a1_1], .int .i64 x8_1] (by rfl) rfl rfl (by (try simp only [List.map_toArray, List.map_cons, List.map_nil]); first | done | rfl) ?_
       with_reducible refine (wardenref03_bit.calls a1_0 a1_1 x8_1 t159 _ A14.out).mono ?_
       rintro e w78 ⟨rfl, hb⟩
       refine ⟨_, rfl, ?_⟩
       have n0_ := am (blk_below BK154.out hb)
       have n1_ := am (blk_below BK155.out hb)
       have n2_ := am (blk_below BK156.out hb)
       have n3_ := am (blk_below BK157.out hb)
       have n4_ := am (below_step (by repeat (first | exact HB.out | refine below_set ?_ GE154.out | refine below_set ?_ GE155.out | refine below_set ?_ GE156.out | refine below_set ?_ GE157.out)) hb)
       clear BK154
       clear BK155
       clear BK156
       clear BK157
       clear HB
       have BK154 := n0_
       have BK155 := n1_
       have BK156 := n2_
       have BK157 := n3_
       have HB := n4_
       clear n0_ n1_ n2_ n3_ n4_
       (try clear hb)
       (try clear hb2)
       (try clear hk)
       (try clear hi)
       refine hK.out _ _ ⟨(blk_cell BK154.out 0).trans rfl, (blk_cell BK154.out 1).trans rfl, (blk_cell BK155.out 0).trans rfl, (blk_cell BK155.out 1).trans rfl⟩ (fun hHeld => ?_)
       clear hK K
       refine norm_ (a' := ?_) ?_ ?_
       rotate_left
       ·show Act.put _ (some 22) _ = _
        simp only [Act.put, q1, q2, q3, i64_w, i32_w]
        rfl
       refine pure_ (i := 6) (N := some 9) (v := ?_) (a' := ?_) (ar 8 127) rfl rfl (any_of HT_.out (by kernel_rfl)) (fun _ _ _ h => h) (Or.inl ⟨by rfl, ?_⟩) ?_ ?_
       rotate_left
       ·intro w'
        go_simp
        with_reducible rfl
       rotate_left
       ·simp only [Act.put, q1, q2, q3, i64_w, i32_w]
        rfl
       refine pure_ (i := 7) (N := some 10) (v := ?_) (a' := ?_) (ar 8 255) rfl rfl (any_of HT_.out (by kernel_rfl)) (fun _ _ _ h => h) (Or.inl ⟨by rfl, ?_⟩) ?_ ?_
       rotate_left
       ·intro w'
        go_simp
        with_reducible rfl
       rotate_left
       ·simp only [Act.put, q1, q2, q3, i64_w, i32_w]
        rfl
       refine done_ (done_of HT_.out (by kernel_rfl)) ?_
       go_upto_region 17 with (fail)
       go_cut [51] (fun v51 wc => ∃ (kq : Nat) (x51_74 : Bool), v51 = .bool x51_74 ∧ Aside0 (wardenref03_Bits.j2 kq a2 x8_1 t158 t159 2 x51_74 a0_0 a0_1 a1_0 a1_1 x158000_1 x158001_1 = some (r1, r2)) ∧ Aside0 (kq ≤ k1) ∧ Aside0 (wc.heap[gb154]? = some (.cells #[.int .u64 a0_0, .int .u64 a0_1] 24 (0, 0))) ∧ Aside0 (wc.heap[gb155]? = some (.cells #[.int .u64 a1_0, .int .u64 a1_1] 24 (0, 0))) ∧ Aside0 (wc.heap[gb156]? = some (.cells #[.int .u64 0, .int .u64 0] 24 (0, 0))) ∧ Aside0 (wc.heap[gb157]? = some (.cells #[.int .u64 x158000_1, .int .u64 x158001_1] 24 (0, 0))) ∧ Aside0 (Below w.heap.size w wc))
       case first =>
        have H := HC75.out
        clear HC75
        by_cases c79 : t158 = 1
        ·rw [if_pos c79] at H
         have c79b0 : (t158 == 1) = true := beq_iff_eq.mpr c79
         have c79b1 : (t158 != 1) = false := bne_eq_false_iff_eq.mpr c79
         clear c79
         (first | rw [c79b0] | (simp only [i64_w, i32_w]; rw [c79b0]) | skip)
         have H' := am H
         clear H
         go_wp2
         go_meet
         case rel => exact ⟨_, (true), (by first | rfl | (simp; done) | (simp [*]; done)), H', ⟨by have := HK1.out; first | omega | exact Nat.le_refl _⟩, ⟨by (with_reducible repeat (first | refine blk_drewN ?_ _ | refine blk_drew ?_ | refine blk_alloc ?_ _)); exact BK154.out⟩, ⟨by (with_reducible repeat (first | refine blk_drewN ?_ _ | refine blk_drew ?_ | refine blk_alloc ?_ _)); exact BK155.out⟩, ⟨by (with_reducible repeat (first | refine blk_drewN ?_ _ | refine blk_drew ?_ | refine blk_alloc ?_ _)); exact BK156.out⟩, ⟨by (with_reducible repeat (first | refine blk_drewN ?_ _ | refine blk_drew ?_ | refine blk_alloc ?_ _)); exact BK157.out⟩, ⟨by repeat (first | (with_reducible first | exact HB.out | apply below_alloc | apply pw_below_drewN | apply below_drew1 | refine below_set ?_ GE154.out | refine below_set ?_ GE155.out | refine below_set ?_ GE156.out | refine below_set ?_ GE157.out) | exact HB.out)⟩⟩
        ·rw [if_neg c79] at H
         have c79b0 : (t158 == 1) = false := beq_eq_false_iff_ne.mpr c79
         have c79b1 : (t158 != 1) = true := bne_iff_ne.mpr c79
         (first | rw [c79b0] | (simp only [i64_w, i32_w]; rw [c79b0]) | skip)
         have H' := am H
         clear H
         go_wp2
         go_meet
         case rel => exact ⟨_, ((t159 == 1)), (by first | rfl | (simp; done) | (simp [*]; done)), H', ⟨by have := HK1.out; first | omega | exact Nat.le_refl _⟩, ⟨by (with_reducible repeat (first | refine blk_drewN ?_ _ | refine blk_drew ?_ | refine blk_alloc ?_ _)); exact BK154.out⟩, ⟨by (with_reducible repeat (first | refine blk_drewN ?_ _ | refine blk_drew ?_ | refine blk_alloc ?_ _)); exact BK155.out⟩, ⟨by (with_reducible repeat (first | refine blk_drewN ?_ _ | refine blk_drew ?_ | refine blk_alloc ?_ _)); exact BK156.out⟩, ⟨by (with_reducible repeat (first | refine blk_drewN ?_ _ | refine blk_drew ?_ | refine blk_alloc ?_ _)); exact BK157.out⟩, ⟨by repeat (first | (with_reducible first | exact HB.out | apply below_alloc | apply pw_below_drewN | apply below_drew1 | refine below_set ?_ GE154.out | refine below_set ?_ GE155.out | refine below_set ?_ GE156.out | refine below_set ?_ GE157.out) | exact HB.out)⟩⟩
       case rest =>
        clear HC75
        try clear c1
        try clear c2
        try clear p2
        try clear c3
        try clear c4
        try clear c5
        try clear c6
        try clear p6
        try clear c7
        try clear c8
        try clear c9
        try clear c10
        try clear c12
        try clear c12b0
        try clear c15
        try clear c15b0
        try clear c15b1
        try clear c16
        try clear c16b0
        try clear c16b1
        try clear c21
        try clear c22
        try clear c23
        try clear c31
        try clear c32
        try clear c33
        try clear c37
        try clear c37b0
        try clear c37b1
        try clear c40
        try clear c41
        try clear c42
        try clear c42b0
        try clear c42b1
        try clear c43
        try clear c45
        try clear c46
        try clear c47
        try clear c51
        try clear c51b0
        try clear c51b1
        try clear c52
        try clear c52b0
        try clear c52b1
        try clear c54
        try clear c55
        try clear c56
        try clear c61
        try clear c62
        try clear c63
        try clear p64
        try clear c68
        try clear c69
        try clear c70
        try clear c74
        try clear c74b0
        try clear c74b1
        try clear c79
        try clear c79b0
        try clear c79b1
        try clear hcz11_0
        try clear hcz11_1
        try clear hcz24_0
        try clear hcz24_1
        try clear hcz26_0
        try clear hcz26_1
        try clear hcz34_0
        try clear hcz34_1
        try clear hcz36_0
        try clear hcz36_1
        try clear hcz48_0
        try clear hcz48_1
        try clear hcz50_0
        try clear hcz50_1
        try clear hcz57_0
        try clear hcz57_1
        try clear hcz59_0
        try clear hcz59_1
        try clear hcz64_0
        try clear hcz64_1
        try clear hcz66_0
        try clear hcz66_1
        try clear hcz71_0
        try clear hcz71_1
        try clear hcz73_0
        try clear hcz73_1
        try clear hfz11_0
        try clear hfz11_1
        try clear hfz24_0
        try clear hfz24_1
        try clear hfz26_0
        try clear hfz26_1
        try clear hfz34_0
        try clear hfz34_1
        try clear hfz36_0
        try clear hfz36_1
        try clear hfz48_0
        try clear hfz48_1
        try clear hfz50_0
        try clear hfz50_1
        try clear hfz57_0
        try clear hfz57_1
        try clear hfz59_0
        try clear hfz59_1
        try clear hfz64_0
        try clear hfz64_1
        try clear hfz66_0
        try clear hfz66_1
        try clear hfz71_0
        try clear hfz71_1
        try clear hfz73_0
        try clear hfz73_1
        try clear p2
        try clear p6
        obtain ⟨kq, x51_74, rfl, HA, HJ74, BK154, BK155, BK156, BK157, HB⟩ := hcut
        cases kq with
        | zero => exact absurd HA.out (by simp [wardenref03_Bits.j2])
        | succ kj74 =>
         have H := HA.out
         clear HA
         simp only [wardenref03_Bits.j2] at H
         by_cases c80 : x51_74 = true
         ·subst c80
          have H1 : ((wardenref03_put.f x158000_1 x158001_1 x8_1 1).bind fun bt172 => (wardenref03_Bits.l0 kj74 a2 (wrap64 (x8_1 + 1)) a0_0 a0_1 a1_0 a1_1 bt172.1 bt172.2)) = some (r1, r2) := by rw [if_pos rfl] at H; exact H
          clear H
          have H := H1
          clear H1
          replace H := Option.bind_eq_some_iff.mp H
          obtain ⟨⟨t172, t173⟩, A810, H⟩ := H
          replace H : (wardenref03_Bits.l0 kj74 a2 (wrap64 (x8_1 + 1)) a0_0 a0_1 a1_0 a1_1 t172 t173) = some (r1, r2) := H
          have A81 := am A810
          clear A810
          have H' := am H
          clear H
          have hnb82 := NB157_154.out
          have hnc82 := NB154_157.out
          have hnb83 := NB157_155.out
          have hnc83 := NB155_157.out
          have hnb84 := NB157_156.out
          have hnc84 := NB156_157.out
          have hcz85_0 : wc.cell? ⟨gb157, 0, none⟩ = some (.int .u64 x158000_1) := (blk_cell BK157.out 0).trans rfl
          have hcz85_1 : wc.cell? ⟨gb157, 1, none⟩ = some (.int .u64 x158001_1) := (blk_cell BK157.out 1).trans rfl
          have hfz85_0 := blk_frozen BK157.out 0
          have hfz85_1 := blk_frozen BK157.out 1
          go_wp2_with (first | ((with_reducible refine gate_callee (f := 41) rfl ?_); refine goesL_ (some 72) rfl rfl Try.func41 (by kernel_rfl) rfl #[.agg #[.int .u64 x158000_1, .int .u64 x158001_1], .int .i64 x8_1, .int .i64 1] rfl (by (try simp only [List.map_toArray, List.map_cons, List.map_nil]); first | done | rfl) ?_; (with_reducible refine (wardenref03_put.calls x158000_1 x158001_1 x8_1 1 t172 t173 _ A81.out).mono ?_); rintro e w86 ⟨rfl, hb⟩; refine ⟨_, rfl, ?_⟩; have n0_ := am (blk_below BK154.out hb); have n1_ := am (blk_below BK155.out hb); have n2_ := am (blk_below BK156.out hb); have n3_ := am (blk_below BK157.out hb); have n4_ := am (below_step (by repeat (first | exact HB.out | refine below_set ?_ GE154.out | refine below_set ?_ GE155.out | refine below_set ?_ GE156.out | refine below_set ?_ GE157.out)) hb); clear BK154; clear BK155; clear BK156; clear BK157; clear HB; have BK154 := n0_; have BK155 := n1_; have BK156 := n2_; have BK157 := n3_; have HB := n4_; clear n0_ n1_ n2_ n3_ n4_; (try clear hb); (try clear hb2); (try clear hk); (try clear hi); have hcz87_0 : w86.cell? ⟨gb157, 0, none⟩ = some (.int .u64 x158000_1) := (blk_cell BK157.out 0).trans rfl; have hcz87_1 : w86.cell? ⟨gb157, 1, none⟩ = some (.int .u64 x158001_1) := (blk_cell BK157.out 1).trans rfl; have hfz87_0 := blk_frozen BK157.out 0; have hfz87_1 := blk_frozen BK157.out 1))
          go_roundg kj74
          case measure => have := HK1.out; have := HJ74.out; omega
          case rel => exact ⟨(wrap64 (x8_1 + 1)), (t172), (t173), (by first | rfl | (simp; done) | (simp [*]; done)), H', ⟨by have := HK1.out; have := HJ74.out; omega⟩, ⟨by (with_reducible repeat (first | refine blk_drewN ?_ _ | refine blk_drew ?_ | refine blk_alloc ?_ _)); refine blk_far ?_ NB154_157.out _; (with_reducible repeat (first | refine blk_drewN ?_ _ | refine blk_drew ?_ | refine blk_alloc ?_ _)); refine blk_far ?_ NB154_157.out _; (with_reducible repeat (first | refine blk_drewN ?_ _ | refine blk_drew ?_ | refine blk_alloc ?_ _)); exact BK154.out⟩, ⟨by (with_reducible repeat (first | refine blk_drewN ?_ _ | refine blk_drew ?_ | refine blk_alloc ?_ _)); refine blk_far ?_ NB155_157.out _; (with_reducible repeat (first | refine blk_drewN ?_ _ | refine blk_drew ?_ | refine blk_alloc ?_ _)); refine blk_far ?_ NB155_157.out _; (with_reducible repeat (first | refine blk_drewN ?_ _ | refine blk_drew ?_ | refine blk_alloc ?_ _)); exact BK155.out⟩, ⟨by (with_reducible repeat (first | refine blk_drewN ?_ _ | refine blk_drew ?_ | refine blk_alloc ?_ _)); refine blk_far ?_ NB156_157.out _; (with_reducible repeat (first | refine blk_drewN ?_ _ | refine blk_drew ?_ | refine blk_alloc ?_ _)); refine blk_far ?_ NB156_157.out _; (with_reducible repeat (first | refine blk_drewN ?_ _ | refine blk_drew ?_ | refine blk_alloc ?_ _)); exact BK156.out⟩, ⟨by (with_reducible repeat (first | refine blk_drewN ?_ _ | refine blk_drew ?_ | refine blk_alloc ?_ _)); refine blk_put (cs := #[.int .u64 t172, .int .u64 x158001_1]) ?_ 1 _ rfl; (with_reducible repeat (first | refine blk_drewN ?_ _ | refine blk_drew ?_ | refine blk_alloc ?_ _)); refine blk_put (cs := #[.int .u64 x158000_1, .int .u64 x158001_1]) ?_ 0 _ rfl; (with_reducible repeat (first | refine blk_drewN ?_ _ | refine blk_drew ?_ | refine blk_alloc ?_ _)); exact BK157.out⟩, ⟨by repeat (first | (with_reducible first | exact HB.out | apply below_alloc | apply pw_below_drewN | apply below_drew1 | refine below_set ?_ GE154.out | refine below_set ?_ GE155.out | refine below_set ?_ GE156.out | refine below_set ?_ GE157.out) | exact HB.out)⟩⟩
         ·replace c80 := Bool.eq_false_iff.mpr c80
          subst c80
          have H1 : (if t158 = 0 then (if t159 = 0 then ((wardenref03_put.f x158000_1 x158001_1 x8_1 0).bind fun bt174 => (wardenref03_Bits.l0 kj74 a2 (wrap64 (x8_1 + 1)) a0_0 a0_1 a1_0 a1_1 bt174.1 bt174.2)) else ((wardenref03_put.f x158000_1 x158001_1 x8_1 2).bind fun bt176 => (wardenref03_Bits.l0 kj74 a2 (wrap64 (x8_1 + 1)) a0_0 a0_1 a1_0 a1_1 bt176.1 bt176.2))) else ((wardenref03_put.f x158000_1 x158001_1 x8_1 2).bind fun bt178 => (wardenref03_Bits.l0 kj74 a2 (wrap64 (x8_1 + 1)) a0_0 a0_1 a1_0 a1_1 bt178.1 bt178.2))) = some (r1, r2) := by rw [if_neg (show ¬ (false = true) by decide)] at H; exact H
          clear H
          have H := H1
          clear H1
          by_cases c88 : t158 = 0
          ·rw [if_pos c88] at H
           have c88b0 : (t158 == 0) = true := beq_iff_eq.mpr c88
           have c88b1 : (t158 != 0) = false := bne_eq_false_iff_eq.mpr c88
           clear c88
           by_cases c89 : t159 = 0
           ·rw [if_pos c89] at H
            have c89b0 : (t159 == 0) = true := beq_iff_eq.mpr c89
            have c89b1 : (t159 != 0) = false := bne_eq_false_iff_eq.mpr c89
            clear c89
            replace H := Option.bind_eq_some_iff.mp H
            obtain ⟨⟨t174, t175⟩, A900, H⟩ := H
            replace H : (wardenref03_Bits.l0 kj74 a2 (wrap64 (x8_1 + 1)) a0_0 a0_1 a1_0 a1_1 t174 t175) = some (r1, r2) := H
            have A90 := am A900
            clear A900
            have H' := am H
            clear H
            have hnb91 := NB157_154.out
            have hnc91 := NB154_157.out
            have hnb92 := NB157_155.out
            have hnc92 := NB155_157.out
            have hnb93 := NB157_156.out
            have hnc93 := NB156_157.out
            have hcz94_0 : wc.cell? ⟨gb157, 0, none⟩ = some (.int .u64 x158000_1) := (blk_cell BK157.out 0).trans rfl
            have hcz94_1 : wc.cell? ⟨gb157, 1, none⟩ = some (.int .u64 x158001_1) := (blk_cell BK157.out 1).trans rfl
            have hfz94_0 := blk_frozen BK157.out 0
            have hfz94_1 := blk_frozen BK157.out 1
            go_wp2_with (first | ((with_reducible refine gate_callee (f := 41) rfl ?_); refine goesL_ (some 72) rfl rfl Try.func41 (by kernel_rfl) rfl #[.agg #[.int .u64 x158000_1, .int .u64 x158001_1], .int .i64 x8_1, .int .i64 0] rfl (by (try simp only [List.map_toArray, List.map_cons, List.map_nil]); first | done | rfl) ?_; (with_reducible refine (wardenref03_put.calls x158000_1 x158001_1 x8_1 0 t174 t175 _ A90.out).mono ?_); rintro e w95 ⟨rfl, hb⟩; refine ⟨_, rfl, ?_⟩; have n0_ := am (blk_below BK154.out hb); have n1_ := am (blk_below BK155.out hb); have n2_ := am (blk_below BK156.out hb); have n3_ := am (blk_below BK157.out hb); have n4_ := am (below_step (by repeat (first | exact HB.out | refine below_set ?_ GE154.out | refine below_set ?_ GE155.out | refine below_set ?_ GE156.out | refine below_set ?_ GE157.out)) hb); clear BK154; clear BK155; clear BK156; clear BK157; clear HB; have BK154 := n0_; have BK155 := n1_; have BK156 := n2_; have BK157 := n3_; have HB := n4_; clear n0_ n1_ n2_ n3_ n4_; (try clear hb); (try clear hb2); (try clear hk); (try clear hi); have hcz96_0 : w95.cell? ⟨gb157, 0, none⟩ = some (.int .u64 x158000_1) := (blk_cell BK157.out 0).trans rfl; have hcz96_1 : w95.cell? ⟨gb157, 1, none⟩ = some (.int .u64 x158001_1) := (blk_cell BK157.out 1).trans rfl; have hfz96_0 := blk_frozen BK157.out 0; have hfz96_1 := blk_frozen BK157.out 1))
            go_roundg kj74
            case measure => have := HK1.out; have := HJ74.out; omega
            case rel => exact ⟨(wrap64 (x8_1 + 1)), (t174), (t175), (by first | rfl | (simp; done) | (simp [*]; done)), H', ⟨by have := HK1.out; have := HJ74.out; omega⟩, ⟨by (with_reducible repeat (first | refine blk_drewN ?_ _ | refine blk_drew ?_ | refine blk_alloc ?_ _)); refine blk_far ?_ NB154_157.out _; (with_reducible repeat (first | refine blk_drewN ?_ _ | refine blk_drew ?_ | refine blk_alloc ?_ _)); refine blk_far ?_ NB154_157.out _; (with_reducible repeat (first | refine blk_drewN ?_ _ | refine blk_drew ?_ | refine blk_alloc ?_ _)); exact BK154.out⟩, ⟨by (with_reducible repeat (first | refine blk_drewN ?_ _ | refine blk_drew ?_ | refine blk_alloc ?_ _)); refine blk_far ?_ NB155_157.out _; (with_reducible repeat (first | refine blk_drewN ?_ _ | refine blk_drew ?_ | refine blk_alloc ?_ _)); refine blk_far ?_ NB155_157.out _; (with_reducible repeat (first | refine blk_drewN ?_ _ | refine blk_drew ?_ | refine blk_alloc ?_ _)); exact BK155.out⟩, ⟨by (with_reducible repeat (first | refine blk_drewN ?_ _ | refine blk_drew ?_ | refine blk_alloc ?_ _)); refine blk_far ?_ NB156_157.out _; (with_reducible repeat (first | refine blk_drewN ?_ _ | refine blk_drew ?_ | refine blk_alloc ?_ _)); refine blk_far ?_ NB156_157.out _; (with_reducible repeat (first | refine blk_drewN ?_ _ | refine blk_drew ?_ | refine blk_alloc ?_ _)); exact BK156.out⟩, ⟨by (with_reducible repeat (first | refine blk_drewN ?_ _ | refine blk_drew ?_ | refine blk_alloc ?_ _)); refine blk_put (cs := #[.int .u64 t174, .int .u64 x158001_1]) ?_ 1 _ rfl; (with_reducible repeat (first | refine blk_drewN ?_ _ | refine blk_drew ?_ | refine blk_alloc ?_ _)); refine blk_put (cs := #[.int .u64 x158000_1, .int .u64 x158001_1]) ?_ 0 _ rfl; (with_reducible repeat (first | refine blk_drewN ?_ _ | refine blk_drew ?_ | refine blk_alloc ?_ _)); exact BK157.out⟩, ⟨by repeat (first | (with_reducible first | exact HB.out | apply below_alloc | apply pw_below_drewN | apply below_drew1 | refine below_set ?_ GE154.out | refine below_set ?_ GE155.out | refine below_set ?_ GE156.out | refine below_set ?_ GE157.out) | exact HB.out)⟩⟩
           ·rw [if_neg c89] at H
            have c89b0 : (t159 == 0) = false := beq_eq_false_iff_ne.mpr c89
            have c89b1 : (t159 != 0) = true := bne_iff_ne.mpr c89
            replace H := Option.bind_eq_some_iff.mp H
            obtain ⟨⟨t176, t177⟩, A970, H⟩ := H
            replace H : (wardenref03_Bits.l0 kj74 a2 (wrap64 (x8_1 + 1)) a0_0 a0_1 a1_0 a1_1 t176 t177) = some (r1, r2) := H
            have A97 := am A970
            clear A970
            have H' := am H
            clear H
            have hnb98 := NB157_154.out
            have hnc98 := NB154_157.out
            have hnb99 := NB157_155.out
            have hnc99 := NB155_157.out
            have hnb100 := NB157_156.out
            have hnc100 := NB156_157.out
            have hcz101_0 : wc.cell? ⟨gb157, 0, none⟩ = some (.int .u64 x158000_1) := (blk_cell BK157.out 0).trans rfl
            have hcz101_1 : wc.cell? ⟨gb157, 1, none⟩ = some (.int .u64 x158001_1) := (blk_cell BK157.out 1).trans rfl
            have hfz101_0 := blk_frozen BK157.out 0
            have hfz101_1 := blk_frozen BK157.out 1
            go_wp2_with (first | ((with_reducible refine gate_callee (f := 41) rfl ?_); refine goesL_ (some 72) rfl rfl Try.func41 (by kernel_rfl) rfl #[.agg #[.int .u64 x158000_1, .int .u64 x158001_1], .int .i64 x8_1, .int .i64 2] rfl (by (try simp only [List.map_toArray, List.map_cons, List.map_nil]); first | done | rfl) ?_; (with_reducible refine (wardenref03_put.calls x158000_1 x158001_1 x8_1 2 t176 t177 _ A97.out).mono ?_); rintro e w102 ⟨rfl, hb⟩; refine ⟨_, rfl, ?_⟩; have n0_ := am (blk_below BK154.out hb); have n1_ := am (blk_below BK155.out hb); have n2_ := am (blk_below BK156.out hb); have n3_ := am (blk_below BK157.out hb); have n4_ := am (below_step (by repeat (first | exact HB.out | refine below_set ?_ GE154.out | refine below_set ?_ GE155.out | refine below_set ?_ GE156.out | refine below_set ?_ GE157.out)) hb); clear BK154; clear BK155; clear BK156; clear BK157; clear HB; have BK154 := n0_; have BK155 := n1_; have BK156 := n2_; have BK157 := n3_; have HB := n4_; clear n0_ n1_ n2_ n3_ n4_; (try clear hb); (try clear hb2); (try clear hk); (try clear hi); have hcz103_0 : w102.cell? ⟨gb157, 0, none⟩ = some (.int .u64 x158000_1) := (blk_cell BK157.out 0).trans rfl; have hcz103_1 : w102.cell? ⟨gb157, 1, none⟩ = some (.int .u64 x158001_1) := (blk_cell BK157.out 1).trans rfl; have hfz103_0 := blk_frozen BK157.out 0; have hfz103_1 := blk_frozen BK157.out 1))
            go_roundg kj74
            case measure => have := HK1.out; have := HJ74.out; omega
            case rel => exact ⟨(wrap64 (x8_1 + 1)), (t176), (t177), (by first | rfl | (simp; done) | (simp [*]; done)), H', ⟨by have := HK1.out; have := HJ74.out; omega⟩, ⟨by (with_reducible repeat (first | refine blk_drewN ?_ _ | refine blk_drew ?_ | refine blk_alloc ?_ _)); refine blk_far ?_ NB154_157.out _; (with_reducible repeat (first | refine blk_drewN ?_ _ | refine blk_drew ?_ | refine blk_alloc ?_ _)); refine blk_far ?_ NB154_157.out _; (with_reducible repeat (first | refine blk_drewN ?_ _ | refine blk_drew ?_ | refine blk_alloc ?_ _)); exact BK154.out⟩, ⟨by (with_reducible repeat (first | refine blk_drewN ?_ _ | refine blk_drew ?_ | refine blk_alloc ?_ _)); refine blk_far ?_ NB155_157.out _; (with_reducible repeat (first | refine blk_drewN ?_ _ | refine blk_drew ?_ | refine blk_alloc ?_ _)); refine blk_far ?_ NB155_157.out _; (with_reducible repeat (first | refine blk_drewN ?_ _ | refine blk_drew ?_ | refine blk_alloc ?_ _)); exact BK155.out⟩, ⟨by (with_reducible repeat (first | refine blk_drewN ?_ _ | refine blk_drew ?_ | refine blk_alloc ?_ _)); refine blk_far ?_ NB156_157.out _; (with_reducible repeat (first | refine blk_drewN ?_ _ | refine blk_drew ?_ | refine blk_alloc ?_ _)); refine blk_far ?_ NB156_157.out _; (with_reducible repeat (first | refine blk_drewN ?_ _ | refine blk_drew ?_ | refine blk_alloc ?_ _)); exact BK156.out⟩, ⟨by (with_reducible repeat (first | refine blk_drewN ?_ _ | refine blk_drew ?_ | refine blk_alloc ?_ _)); refine blk_put (cs := #[.int .u64 t176, .int .u64 x158001_1]) ?_ 1 _ rfl; (with_reducible repeat (first | refine blk_drewN ?_ _ | refine blk_drew ?_ | refine blk_alloc ?_ _)); refine blk_put (cs := #[.int .u64 x158000_1, .int .u64 x158001_1]) ?_ 0 _ rfl; (with_reducible repeat (first | refine blk_drewN ?_ _ | refine blk_drew ?_ | refine blk_alloc ?_ _)); exact BK157.out⟩, ⟨by repeat (first | (with_reducible first | exact HB.out | apply below_alloc | apply pw_below_drewN | apply below_drew1 | refine below_set ?_ GE154.out | refine below_set ?_ GE155.out | refine below_set ?_ GE156.out | refine below_set ?_ GE157.out) | exact HB.out)⟩⟩
          ·rw [if_neg c88] at H
           have c88b0 : (t158 == 0) = false := beq_eq_false_iff_ne.mpr c88
           have c88b1 : (t158 != 0) = true := bne_iff_ne.mpr c88
           replace H := Option.bind_eq_some_iff.mp H
           obtain ⟨⟨t178, t179⟩, A1040, H⟩ := H
           replace H : (wardenref03_Bits.l0 kj74 a2 (wrap64 (x8_1 + 1)) a0_0 a0_1 a1_0 a1_1 t178 t179) = some (r1, r2) := H
           have A104 := am A1040
           clear A1040
           have H' := am H
           clear H
           have hnb105 := NB157_154.out
           have hnc105 := NB154_157.out
           have hnb106 := NB157_155.out
           have hnc106 := NB155_157.out
           have hnb107 := NB157_156.out
           have hnc107 := NB156_157.out
           have hcz108_0 : wc.cell? ⟨gb157, 0, none⟩ = some (.int .u64 x158000_1) := (blk_cell BK157.out 0).trans rfl
           have hcz108_1 : wc.cell? ⟨gb157, 1, none⟩ = some (.int .u64 x158001_1) := (blk_cell BK157.out 1).trans rfl
           have hfz108_0 := blk_frozen BK157.out 0
           have hfz108_1 := blk_frozen BK157.out 1
           go_wp2_with (first | ((with_reducible refine gate_callee (f := 41) rfl ?_); refine goesL_ (some 72) rfl rfl Try.func41 (by kernel_rfl) rfl #[.agg #[.int .u64 x158000_1, .int .u64 x158001_1], .int .i64 x8_1, .int .i64 2] rfl (by (try simp only [List.map_toArray, List.map_cons, List.map_nil]); first | done | rfl) ?_; (with_reducible refine (wardenref03_put.calls x158000_1 x158001_1 x8_1 2 t178 t179 _ A104.out).mono ?_); rintro e w109 ⟨rfl, hb⟩; refine ⟨_, rfl, ?_⟩; have n0_ := am (blk_below BK154.out hb); have n1_ := am (blk_below BK155.out hb); have n2_ := am (blk_below BK156.out hb); have n3_ := am (blk_below BK157.out hb); have n4_ := am (below_step (by repeat (first | exact HB.out | refine below_set ?_ GE154.out | refine below_set ?_ GE155.out | refine below_set ?_ GE156.out | refine below_set ?_ GE157.out)) hb); clear BK154; clear BK155; clear BK156; clear BK157; clear HB; have BK154 := n0_; have BK155 := n1_; have BK156 := n2_; have BK157 := n3_; have HB := n4_; clear n0_ n1_ n2_ n3_ n4_; (try clear hb); (try clear hb2); (try clear hk); (try clear hi); have hcz110_0 : w109.cell? ⟨gb157, 0, none⟩ = some (.int .u64 x158000_1) := (blk_cell BK157.out 0).trans rfl; have hcz110_1 : w109.cell? ⟨gb157, 1, none⟩ = some (.int .u64 x158001_1) := (blk_cell BK157.out 1).trans rfl; have hfz110_0 := blk_frozen BK157.out 0; have hfz110_1 := blk_frozen BK157.out 1))
           go_roundg kj74
           case measure => have := HK1.out; have := HJ74.out; omega
           case rel => exact ⟨(wrap64 (x8_1 + 1)), (t178), (t179), (by first | rfl | (simp; done) | (simp [*]; done)), H', ⟨by have := HK1.out; have := HJ74.out; omega⟩, ⟨by (with_reducible repeat (first | refine blk_drewN ?_ _ | refine blk_drew ?_ | refine blk_alloc ?_ _)); refine blk_far ?_ NB154_157.out _; (with_reducible repeat (first | refine blk_drewN ?_ _ | refine blk_drew ?_ | refine blk_alloc ?_ _)); refine blk_far ?_ NB154_157.out _; (with_reducible repeat (first | refine blk_drewN ?_ _ | refine blk_drew ?_ | refine blk_alloc ?_ _)); exact BK154.out⟩, ⟨by (with_reducible repeat (first | refine blk_drewN ?_ _ | refine blk_drew ?_ | refine blk_alloc ?_ _)); refine blk_far ?_ NB155_157.out _; (with_reducible repeat (first | refine blk_drewN ?_ _ | refine blk_drew ?_ | refine blk_alloc ?_ _)); refine blk_far ?_ NB155_157.out _; (with_reducible repeat (first | refine blk_drewN ?_ _ | refine blk_drew ?_ | refine blk_alloc ?_ _)); exact BK155.out⟩, ⟨by (with_reducible repeat (first | refine blk_drewN ?_ _ | refine blk_drew ?_ | refine blk_alloc ?_ _)); refine blk_far ?_ NB156_157.out _; (with_reducible repeat (first | refine blk_drewN ?_ _ | refine blk_drew ?_ | refine blk_alloc ?_ _)); refine blk_far ?_ NB156_157.out _; (with_reducible repeat (first | refine blk_drewN ?_ _ | refine blk_drew ?_ | refine blk_alloc ?_ _)); exact BK156.out⟩, ⟨by (with_reducible repeat (first | refine blk_drewN ?_ _ | refine blk_drew ?_ | refine blk_alloc ?_ _)); refine blk_put (cs := #[.int .u64 t178, .int .u64 x158001_1]) ?_ 1 _ rfl; (with_reducible repeat (first | refine blk_drewN ?_ _ | refine blk_drew ?_ | refine blk_alloc ?_ _)); refine blk_put (cs := #[.int .u64 x158000_1, .int .u64 x158001_1]) ?_ 0 _ rfl; (with_reducible repeat (first | refine blk_drewN ?_ _ | refine blk_drew ?_ | refine blk_alloc ?_ _)); exact BK157.out⟩, ⟨by repeat (first | (with_reducible first | exact HB.out | apply below_alloc | apply pw_below_drewN | apply below_drew1 | refine below_set ?_ GE154.out | refine below_set ?_ GE155.out | refine below_set ?_ GE156.out | refine below_set ?_ GE157.out) | exact HB.out)⟩⟩
      ·rw [if_neg c74] at H
       have c74b0 : (a2 == 2) = false := beq_eq_false_iff_ne.mpr c74
       have c74b1 : (a2 != 2) = true := bne_iff_ne.mpr c74
       by_cases c111 : a2 = 3
       ·rw [if_pos c111] at H
        have c111b0 : (a2 == 3) = true := beq_iff_eq.mpr c111
        have c111b1 : (a2 != 3) = false := bne_eq_false_iff_eq.mpr c111
        clear c111
        by_cases c112 : t158 = 2
        ·rw [if_pos c112] at H
         have c112b0 : (t158 == 2) = true := beq_iff_eq.mpr c112
         have c112b1 : (t158 != 2) = false := bne_eq_false_iff_eq.mpr c112
         clear c112
         replace H := Option.bind_eq_some_iff.mp H
         obtain ⟨⟨t180, t181⟩, A1130, H⟩ := H
         replace H : (wardenref03_Bits.l0 k1 a2 (wrap64 (x8_1 + 1)) a0_0 a0_1 a1_0 a1_1 t180 t181) = some (r1, r2) := H
         have A113 := am A1130
         clear A1130
         have H' := am H
         clear H
         try go_wp2
         have n0_ := am (blk_drew BK154.out)
         have n1_ := am (blk_drew BK155.out)
         have n2_ := am (blk_drew BK156.out)
         have n3_ := am (blk_drew BK157.out)
         have n4_ := am (below_drew1 HB.out)
         clear BK154
         clear BK155
         clear BK156
         clear BK157
         clear HB
         have BK154 := n0_
         have BK155 := n1_
         have BK156 := n2_
         have BK157 := n3_
         have HB := n4_
         clear n0_ n1_ n2_ n3_ n4_
         refine start_ (n := 8) (S := fun w' => w'.cell? ⟨gb154, 0, none⟩ = some (.int .u64 a0_0) ∧ w'.cell? ⟨gb154, 1, none⟩ = some (.int .u64 a0_1) ∧ w'.cell? ⟨gb155, 0, none⟩ = some (.int .u64 a1_0) ∧ w'.cell? ⟨gb155, 1, none⟩ = some (.int .u64 a1_1)) (ds := []) (ar 8 0) (by kernel_rfl) rfl rfl ⟨(blk_cell BK154.out 0).trans rfl, (blk_cell BK154.out 1).trans rfl, (blk_cell BK155.out 0).trans rfl, (blk_cell BK155.out 1).trans rfl⟩ (fun hHeld => ?_); refine with_tabW wardenref03_Bits.tab5 wardenref03_Bits.bits5 (fun HT_ HW_ => ?_)
         generalize wr.drew = w114 at BK154 BK155 BK156 BK157 HB hHeld ⊢
         refine pure_ (i := 1) (N := some 18) (v := ?_) (a' := ?_) (ar 8 2) rfl rfl (any_of HT_.out (by kernel_rfl)) (fun _ _ _ h => h) (Or.inl ⟨by rfl, ?_⟩) ?_ ?_
         rotate_left
         ·intro w'
          go_simp
          with_reducible rfl
         rotate_left
         ·simp only [Act.put, q1, q2, q3, i64_w, i32_w]
          rfl
         refine pure_ (i := 4) (N := some 21) (v := ?_) (a' := ?_) (ar 8 18) rfl rfl (any_of HT_.out (by kernel_rfl)) (fun _ _ _ h => h) (Or.inl ⟨by rfl, ?_⟩) ?_ ?_
         rotate_left
         ·intro w'
          go_simp
          with_reducible rfl
         rotate_left
         ·simp only [Act.put, q1, q2, q3, i64_w, i32_w]
          rfl
         refine take_ (i := 0) (N := some 17) (v := ?_) (a' := ?_) (ar 8 19) rfl rfl (take_ofW HT_.out HW_.out (by kernel_rfl)) (fun _ _ _ h => h) (Or.inl ⟨by rfl, ?_⟩) hHeld ?_ ?_
         rotate_left
         ·rintro w' ⟨s0, s1, s2, s3⟩
          go_simp
          with_reducible rfl
         rotate_left
         ·simp only [Act.put, q1, q2, q3, i64_w, i32_w]
          rfl
         refine take_ (i := 3) (N := some 20) (v := ?_) (a' := ?_) (ar 8 27) rfl rfl (take_ofW HT_.out HW_.out (by kernel_rfl)) (fun _ _ _ h => h) (Or.inl ⟨by rfl, ?_⟩) hHeld ?_ ?_
         rotate_left
         ·rintro w' ⟨s0, s1, s2, s3⟩
          go_simp
          with_reducible rfl
         rotate_left
         ·simp only [Act.put, q1, q2, q3, i64_w, i32_w]
          rfl
         refine one_ (i := 2) (N := some 19) (ar 8 31) rfl rfl (one_of HT_.out (by kernel_rfl)) (by decide) (fun K hK => ?_)
         refine goes_ Try.func40 (by kernel_rfl) rfl #[.agg #[.int .u64 a0_0, .int .u64 a0_1], .int .i64 x8_1] (by rfl) rfl rfl (by (try simp only [List.map_toArray, List.map_cons, List.map_nil]); first | done | rfl) ?_
         with_reducible refine (wardenref03_bit.calls a0_0 a0_1 x8_1 t158 _ A13.out).mono ?_
         rintro e w115 ⟨rfl, hb⟩
         refine ⟨_, rfl, ?_⟩
         have n0_ := am (blk_below BK154.out hb)
         have n1_ := am (blk_below BK155.out hb)
         have n2_ := am (blk_below BK156.out hb)
         have n3_ := am (blk_below BK157.out hb)
         have n4_ := am (below_step (by repeat (first | exact HB.out | refine below_set ?_ GE154.out | refine below_set ?_ GE155.out | refine below_set ?_ GE156.out | refine below_set ?_ GE157.out)) hb)
         clear BK154
         clear BK155
         clear BK156
         clear BK157
         clear HB
         have BK154 := n0_
         have BK155 := n1_
         have BK156 := n2_
         have BK157 := n3_
         have HB := n4_
         clear n0_ n1_ n2_ n3_ n4_
         (try clear hb)
         (try clear hb2)
         (try clear hk)
         (try clear hi)
         refine hK.out _ _ ⟨(blk_cell BK154.out 0).trans rfl, (blk_cell BK154.out 1).trans rfl, (blk_cell BK155.out 0).trans rfl, (blk_cell BK155.out 1).trans rfl⟩ (fun hHeld => ?_)
         clear hK K
         refine norm_ (a' := ?_) ?_ ?_
         rotate_left
         ·show Act.put _ (some 19) _ = _
          simp only [Act.put, q1, q2, q3, i64_w, i32_w]
          rfl
         refine one_ (i := 5) (N := some 22) (ar 8 63) rfl rfl (one_of HT_.out (by kernel_rfl)) (by decide) (fun K hK => ?_)
         refine goes_ Try.func40 (by kernel_rfl) rfl #[.agg #[.int .u64 a1_0, .int .u64 a1_1], .int .i64 x8_1] (by rfl) rfl rfl (by (try simp only [List.map_toArray, List.map_cons, List.map_nil]); first | done | rfl) ?_
         with_reducible refine (wardenref03_bit.calls a1_0 a1_1 x8_1 t159 _ A14.out).mono ?_
         rintro e w116 ⟨rfl, hb⟩
         refine ⟨_, rfl, ?_⟩
         have n0_ := am (blk_below BK154.out hb)
         have n1_ := am (blk_below BK155.out hb)
         have n2_ := am (blk_below BK156.out hb)
         have n3_ := am (blk_below BK157.out hb)
         have n4_ := am (below_step (by repeat (first | exact HB.out | refine below_set ?_ GE154.out | refine below_set ?_ GE155.out | refine below_set ?_ GE156.out | refine below_set ?_ GE157.out)) hb)
         clear BK154
         clear BK155
         clear BK156
         clear BK157
         clear HB
         have BK154 := n0_
         have BK155 := n1_
         have BK156 := n2_
         have BK157 := n3_
         have HB := n4_
         clear n0_ n1_ n2_ n3_ n4_
         (try clear hb)
         (try clear hb2)
         (try clear hk)
         (try clear hi)
         refine hK.out _ _ ⟨(blk_cell BK154.out 0).trans rfl, (blk_cell BK154.out 1).trans rfl, (blk_cell BK155.out 0).trans rfl, (blk_cell BK155.out 1).trans rfl⟩ (fun hHeld => ?_)
         clear hK K
         refine norm_ (a' := ?_) ?_ ?_
         rotate_left
         ·show Act.put _ (some 22) _ = _
          simp only [Act.put, q1, q2, q3, i64_w, i32_w]
          rfl
         refine pure_ (i := 6) (N := some 9) (v := ?_) (a' := ?_) (ar 8 127) rfl rfl (any_of HT_.out (by kernel_rfl)) (fun _ _ _ h => h) (Or.inl ⟨by rfl, ?_⟩) ?_ ?_
         rotate_left
         ·intro w'
          go_simp
          with_reducible rfl
         rotate_left
         ·simp only [Act.put, q1, q2, q3, i64_w, i32_w]
          rfl
         refine pure_ (i := 7) (N := some 10) (v := ?_) (a' := ?_) (ar 8 255) rfl rfl (any_of HT_.out (by kernel_rfl)) (fun _ _ _ h => h) (Or.inl ⟨by rfl, ?_⟩) ?_ ?_
         rotate_left
         ·intro w'
          go_simp
          with_reducible rfl
         rotate_left
         ·simp only [Act.put, q1, q2, q3, i64_w, i32_w]
          rfl
         refine done_ (done_of HT_.out (by kernel_rfl)) ?_
         have hnb117 := NB157_154.out
         have hnc117 := NB154_157.out
         have hnb118 := NB157_155.out
         have hnc118 := NB155_157.out
         have hnb119 := NB157_156.out
         have hnc119 := NB156_157.out
         have hcz120_0 : w116.cell? ⟨gb157, 0, none⟩ = some (.int .u64 x158000_1) := (blk_cell BK157.out 0).trans rfl
         have hcz120_1 : w116.cell? ⟨gb157, 1, none⟩ = some (.int .u64 x158001_1) := (blk_cell BK157.out 1).trans rfl
         have hfz120_0 := blk_frozen BK157.out 0
         have hfz120_1 := blk_frozen BK157.out 1
         try go_wp2_with (first | ((with_reducible refine gate_callee (f := 41) rfl ?_); refine goesL_ (some 72) rfl rfl Try.func41 (by kernel_rfl) rfl #[.agg #[.int .u64 x158000_1, .int .u64 x158001_1], .int .i64 x8_1, .int .i64 2] rfl (by (try simp only [List.map_toArray, List.map_cons, List.map_nil]); first | done | rfl) ?_; (with_reducible refine (wardenref03_put.calls x158000_1 x158001_1 x8_1 2 t180 t181 _ A113.out).mono ?_); rintro e w121 ⟨rfl, hb⟩; refine ⟨_, rfl, ?_⟩; have n0_ := am (blk_below BK154.out hb); have n1_ := am (blk_below BK155.out hb); have n2_ := am (blk_below BK156.out hb); have n3_ := am (blk_below BK157.out hb); have n4_ := am (below_step (by repeat (first | exact HB.out | refine below_set ?_ GE154.out | refine below_set ?_ GE155.out | refine below_set ?_ GE156.out | refine below_set ?_ GE157.out)) hb); clear BK154; clear BK155; clear BK156; clear BK157; clear HB; have BK154 := n0_; have BK155 := n1_; have BK156 := n2_; have BK157 := n3_; have HB := n4_; clear n0_ n1_ n2_ n3_ n4_; (try clear hb); (try clear hb2); (try clear hk); (try clear hi); have hcz122_0 : w121.cell? ⟨gb157, 0, none⟩ = some (.int .u64 x158000_1) := (blk_cell BK157.out 0).trans rfl; have hcz122_1 : w121.cell? ⟨gb157, 1, none⟩ = some (.int .u64 x158001_1) := (blk_cell BK157.out 1).trans rfl; have hfz122_0 := blk_frozen BK157.out 0; have hfz122_1 := blk_frozen BK157.out 1))
         go_roundg k1
         case measure => have := HK1.out; omega
         case rel => exact ⟨(wrap64 (x8_1 + 1)), (t180), (t181), (by first | rfl | (simp; done) | (simp [*]; done)), H', ⟨by have := HK1.out; omega⟩, ⟨by (with_reducible repeat (first | refine blk_drewN ?_ _ | refine blk_drew ?_ | refine blk_alloc ?_ _)); refine blk_far ?_ NB154_157.out _; (with_reducible repeat (first | refine blk_drewN ?_ _ | refine blk_drew ?_ | refine blk_alloc ?_ _)); refine blk_far ?_ NB154_157.out _; (with_reducible repeat (first | refine blk_drewN ?_ _ | refine blk_drew ?_ | refine blk_alloc ?_ _)); exact BK154.out⟩, ⟨by (with_reducible repeat (first | refine blk_drewN ?_ _ | refine blk_drew ?_ | refine blk_alloc ?_ _)); refine blk_far ?_ NB155_157.out _; (with_reducible repeat (first | refine blk_drewN ?_ _ | refine blk_drew ?_ | refine blk_alloc ?_ _)); refine blk_far ?_ NB155_157.out _; (with_reducible repeat (first | refine blk_drewN ?_ _ | refine blk_drew ?_ | refine blk_alloc ?_ _)); exact BK155.out⟩, ⟨by (with_reducible repeat (first | refine blk_drewN ?_ _ | refine blk_drew ?_ | refine blk_alloc ?_ _)); refine blk_far ?_ NB156_157.out _; (with_reducible repeat (first | refine blk_drewN ?_ _ | refine blk_drew ?_ | refine blk_alloc ?_ _)); refine blk_far ?_ NB156_157.out _; (with_reducible repeat (first | refine blk_drewN ?_ _ | refine blk_drew ?_ | refine blk_alloc ?_ _)); exact BK156.out⟩, ⟨by (with_reducible repeat (first | refine blk_drewN ?_ _ | refine blk_drew ?_ | refine blk_alloc ?_ _)); refine blk_put (cs := #[.int .u64 t180, .int .u64 x158001_1]) ?_ 1 _ rfl; (with_reducible repeat (first | refine blk_drewN ?_ _ | refine blk_drew ?_ | refine blk_alloc ?_ _)); refine blk_put (cs := #[.int .u64 x158000_1, .int .u64 x158001_1]) ?_ 0 _ rfl; (with_reducible repeat (first | refine blk_drewN ?_ _ | refine blk_drew ?_ | refine blk_alloc ?_ _)); exact BK157.out⟩, ⟨by repeat (first | (with_reducible first | exact HB.out | apply below_alloc | apply pw_below_drewN | apply below_drew1 | refine below_set ?_ GE154.out | refine below_set ?_ GE155.out | refine below_set ?_ GE156.out | refine below_set ?_ GE157.out) | exact HB.out)⟩⟩
        ·rw [if_neg c112] at H
         have c112b0 : (t158 == 2) = false := beq_eq_false_iff_ne.mpr c112
         have c112b1 : (t158 != 2) = true := bne_iff_ne.mpr c112
         by_cases c123 : t159 = 2
         ·rw [if_pos c123] at H
          have c123b0 : (t159 == 2) = true := beq_iff_eq.mpr c123
          have c123b1 : (t159 != 2) = false := bne_eq_false_iff_eq.mpr c123
          clear c123
          replace H := Option.bind_eq_some_iff.mp H
          obtain ⟨⟨t182, t183⟩, A1240, H⟩ := H
          replace H : (wardenref03_Bits.l0 k1 a2 (wrap64 (x8_1 + 1)) a0_0 a0_1 a1_0 a1_1 t182 t183) = some (r1, r2) := H
          have A124 := am A1240
          clear A1240
          have H' := am H
          clear H
          try go_wp2
          have n0_ := am (blk_drew BK154.out)
          have n1_ := am (blk_drew BK155.out)
          have n2_ := am (blk_drew BK156.out)
          have n3_ := am (blk_drew BK157.out)
          have n4_ := am (below_drew1 HB.out)
          clear BK154
          clear BK155
          clear BK156
          clear BK157
          clear HB
          have BK154 := n0_
          have BK155 := n1_
          have BK156 := n2_
          have BK157 := n3_
          have HB := n4_
          clear n0_ n1_ n2_ n3_ n4_
          refine start_ (n := 8) (S := fun w' => w'.cell? ⟨gb154, 0, none⟩ = some (.int .u64 a0_0) ∧ w'.cell? ⟨gb154, 1, none⟩ = some (.int .u64 a0_1) ∧ w'.cell? ⟨gb155, 0, none⟩ = some (.int .u64 a1_0) ∧ w'.cell? ⟨gb155, 1, none⟩ = some (.int .u64 a1_1)) (ds := []) (ar 8 0) (by kernel_rfl) rfl rfl ⟨(blk_cell BK154.out 0).trans rfl, (blk_cell BK154.out 1).trans rfl, (blk_cell BK155.out 0).trans rfl, (blk_cell BK155.out 1).trans rfl⟩ (fun hHeld => ?_); refine with_tabW wardenref03_Bits.tab5 wardenref03_Bits.bits5 (fun HT_ HW_ => ?_)
          generalize wr.drew = w125 at BK154 BK155 BK156 BK157 HB hHeld ⊢
          refine pure_ (i := 1) (N := some 18) (v := ?_) (a' := ?_) (ar 8 2) rfl rfl (any_of HT_.out (by kernel_rfl)) (fun _ _ _ h => h) (Or.inl ⟨by rfl, ?_⟩) ?_ ?_
          rotate_left
          ·intro w'
           go_simp
           with_reducible rfl
          rotate_left
          ·simp only [Act.put, q1, q2, q3, i64_w, i32_w]
           rfl
          refine pure_ (i := 4) (N := some 21) (v := ?_) (a' := ?_) (ar 8 18) rfl rfl (any_of HT_.out (by kernel_rfl)) (fun _ _ _ h => h) (Or.inl ⟨by rfl, ?_⟩) ?_ ?_
          rotate_left
          ·intro w'
           go_simp
           with_reducible rfl
          rotate_left
          ·simp only [Act.put, q1, q2, q3, i64_w, i32_w]
           rfl
          refine take_ (i := 0) (N := some 17) (v := ?_) (a' := ?_) (ar 8 19) rfl rfl (take_ofW HT_.out HW_.out (by kernel_rfl)) (fun _ _ _ h => h) (Or.inl ⟨by rfl, ?_⟩) hHeld ?_ ?_
          rotate_left
          ·rintro w' ⟨s0, s1, s2, s3⟩
           go_simp
           with_reducible rfl
          rotate_left
          ·simp only [Act.put, q1, q2, q3, i64_w, i32_w]
           rfl
          refine take_ (i := 3) (N := some 20) (v := ?_) (a' := ?_) (ar 8 27) rfl rfl (take_ofW HT_.out HW_.out (by kernel_rfl)) (fun _ _ _ h => h) (Or.inl ⟨by rfl, ?_⟩) hHeld ?_ ?_
          rotate_left
          ·rintro w' ⟨s0, s1, s2, s3⟩
           go_simp
           with_reducible rfl
          rotate_left
          ·simp only [Act.put, q1, q2, q3, i64_w, i32_w]
           rfl
          refine one_ (i := 2) (N := some 19) (ar 8 31) rfl rfl (one_of HT_.out (by kernel_rfl)) (by decide) (fun K hK => ?_)
          refine goes_ Try.func40 (by kernel_rfl) rfl #[.agg #[.int .u64 a0_0, .int .u64 a0_1], .int .i64 x8_1] (by rfl) rfl rfl (by (try simp only [List.map_toArray, List.map_cons, List.map_nil]); first | done | rfl) ?_
          with_reducible refine (wardenref03_bit.calls a0_0 a0_1 x8_1 t158 _ A13.out).mono ?_
          rintro e w126 ⟨rfl, hb⟩
          refine ⟨_, rfl, ?_⟩
          have n0_ := am (blk_below BK154.out hb)
          have n1_ := am (blk_below BK155.out hb)
          have n2_ := am (blk_below BK156.out hb)
          have n3_ := am (blk_below BK157.out hb)
          have n4_ := am (below_step (by repeat (first | exact HB.out | refine below_set ?_ GE154.out | refine below_set ?_ GE155.out | refine below_set ?_ GE156.out | refine below_set ?_ GE157.out)) hb)
          clear BK154
          clear BK155
          clear BK156
          clear BK157
          clear HB
          have BK154 := n0_
          have BK155 := n1_
          have BK156 := n2_
          have BK157 := n3_
          have HB := n4_
          clear n0_ n1_ n2_ n3_ n4_
          (try clear hb)
          (try clear hb2)
          (try clear hk)
          (try clear hi)
          refine hK.out _ _ ⟨(blk_cell BK154.out 0).trans rfl, (blk_cell BK154.out 1).trans rfl, (blk_cell BK155.out 0).trans rfl, (blk_cell BK155.out 1).trans rfl⟩ (fun hHeld => ?_)
          clear hK K
          refine norm_ (a' := ?_) ?_ ?_
          rotate_left
          ·show Act.put _ (some 19) _ = _
           simp only [Act.put, q1, q2, q3, i64_w, i32_w]
           rfl
          refine one_ (i := 5) (N := some 22) (ar 8 63) rfl rfl (one_of HT_.out (by kernel_rfl)) (by decide) (fun K hK => ?_)
          refine goes_ Try.func40 (by kernel_rfl) rfl #[.agg #[.int .u64 a1_0, .int .u64 a1_1], .int .i64 x8_1] (by rfl) rfl rfl (by (try simp only [List.map_toArray, List.map_cons, List.map_nil]); first | done | rfl) ?_
          with_reducible refine (wardenref03_bit.calls a1_0 a1_1 x8_1 t159 _ A14.out).mono ?_
          rintro e w127 ⟨rfl, hb⟩
          refine ⟨_, rfl, ?_⟩
          have n0_ := am (blk_below BK154.out hb)
          have n1_ := am (blk_below BK155.out hb)
          have n2_ := am (blk_below BK156.out hb)
          have n3_ := am (blk_below BK157.out hb)
          have n4_ := am (below_step (by repeat (first | exact HB.out | refine below_set ?_ GE154.out | refine below_set ?_ GE155.out | refine below_set ?_ GE156.out | refine below_set ?_ GE157.out)) hb)
          clear BK154
          clear BK155
          clear BK156
          clear BK157
          clear HB
          have BK154 := n0_
          have BK155 := n1_
          have BK156 := n2_
          have BK157 := n3_
          have HB := n4_
          clear n0_ n1_ n2_ n3_ n4_
          (try clear hb)
          (try clear hb2)
          (try clear hk)
          (try clear hi)
          refine hK.out _ _ ⟨(blk_cell BK154.out 0).trans rfl, (blk_cell BK154.out 1).trans rfl, (blk_cell BK155.out 0).trans rfl, (blk_cell BK155.out 1).trans rfl⟩ (fun hHeld => ?_)
          clear hK K
          refine norm_ (a' := ?_) ?_ ?_
          rotate_left
          ·show Act.put _ (some 22) _ = _
           simp only [Act.put, q1, q2, q3, i64_w, i32_w]
           rfl
          refine pure_ (i := 6) (N := some 9) (v := ?_) (a' := ?_) (ar 8 127) rfl rfl (any_of HT_.out (by kernel_rfl)) (fun _ _ _ h => h) (Or.inl ⟨by rfl, ?_⟩) ?_ ?_
          rotate_left
          ·intro w'
           go_simp
           with_reducible rfl
          rotate_left
          ·simp only [Act.put, q1, q2, q3, i64_w, i32_w]
           rfl
          refine pure_ (i := 7) (N := some 10) (v := ?_) (a' := ?_) (ar 8 255) rfl rfl (any_of HT_.out (by kernel_rfl)) (fun _ _ _ h => h) (Or.inl ⟨by rfl, ?_⟩) ?_ ?_
          rotate_left
          ·intro w'
           go_simp
           with_reducible rfl
          rotate_left
          ·simp only [Act.put, q1, q2, q3, i64_w, i32_w]
           rfl
          refine done_ (done_of HT_.out (by kernel_rfl)) ?_
          have hnb128 := NB157_154.out
          have hnc128 := NB154_157.out
          have hnb129 := NB157_155.out
          have hnc129 := NB155_157.out
          have hnb130 := NB157_156.out
          have hnc130 := NB156_157.out
          have hcz131_0 : w127.cell? ⟨gb157, 0, none⟩ = some (.int .u64 x158000_1) := (blk_cell BK157.out 0).trans rfl
          have hcz131_1 : w127.cell? ⟨gb157, 1, none⟩ = some (.int .u64 x158001_1) := (blk_cell BK157.out 1).trans rfl
          have hfz131_0 := blk_frozen BK157.out 0
          have hfz131_1 := blk_frozen BK157.out 1
          try go_wp2_with (first | ((with_reducible refine gate_callee (f := 41) rfl ?_); refine goesL_ (some 72) rfl rfl Try.func41 (by kernel_rfl) rfl #[.agg #[.int .u64 x158000_1, .int .u64 x158001_1], .int .i64 x8_1, .int .i64 2] rfl (by (try simp only [List.map_toArray, List.map_cons, List.map_nil]); first | done | rfl) ?_; (with_reducible refine (wardenref03_put.calls x158000_1 x158001_1 x8_1 2 t182 t183 _ A124.out).mono ?_); rintro e w132 ⟨rfl, hb⟩; refine ⟨_, rfl, ?_⟩; have n0_ := am (blk_below BK154.out hb); have n1_ := am (blk_below BK155.out hb); have n2_ := am (blk_below BK156.out hb); have n3_ := am (blk_below BK157.out hb); have n4_ := am (below_step (by repeat (first | exact HB.out | refine below_set ?_ GE154.out | refine below_set ?_ GE155.out | refine below_set ?_ GE156.out | refine below_set ?_ GE157.out)) hb); clear BK154; clear BK155; clear BK156; clear BK157; clear HB; have BK154 := n0_; have BK155 := n1_; have BK156 := n2_; have BK157 := n3_; have HB := n4_; clear n0_ n1_ n2_ n3_ n4_; (try clear hb); (try clear hb2); (try clear hk); (try clear hi); have hcz133_0 : w132.cell? ⟨gb157, 0, none⟩ = some (.int .u64 x158000_1) := (blk_cell BK157.out 0).trans rfl; have hcz133_1 : w132.cell? ⟨gb157, 1, none⟩ = some (.int .u64 x158001_1) := (blk_cell BK157.out 1).trans rfl; have hfz133_0 := blk_frozen BK157.out 0; have hfz133_1 := blk_frozen BK157.out 1))
          go_roundg k1
          case measure => have := HK1.out; omega
          case rel => exact ⟨(wrap64 (x8_1 + 1)), (t182), (t183), (by first | rfl | (simp; done) | (simp [*]; done)), H', ⟨by have := HK1.out; omega⟩, ⟨by (with_reducible repeat (first | refine blk_drewN ?_ _ | refine blk_drew ?_ | refine blk_alloc ?_ _)); refine blk_far ?_ NB154_157.out _; (with_reducible repeat (first | refine blk_drewN ?_ _ | refine blk_drew ?_ | refine blk_alloc ?_ _)); refine blk_far ?_ NB154_157.out _; (with_reducible repeat (first | refine blk_drewN ?_ _ | refine blk_drew ?_ | refine blk_alloc ?_ _)); exact BK154.out⟩, ⟨by (with_reducible repeat (first | refine blk_drewN ?_ _ | refine blk_drew ?_ | refine blk_alloc ?_ _)); refine blk_far ?_ NB155_157.out _; (with_reducible repeat (first | refine blk_drewN ?_ _ | refine blk_drew ?_ | refine blk_alloc ?_ _)); refine blk_far ?_ NB155_157.out _; (with_reducible repeat (first | refine blk_drewN ?_ _ | refine blk_drew ?_ | refine blk_alloc ?_ _)); exact BK155.out⟩, ⟨by (with_reducible repeat (first | refine blk_drewN ?_ _ | refine blk_drew ?_ | refine blk_alloc ?_ _)); refine blk_far ?_ NB156_157.out _; (with_reducible repeat (first | refine blk_drewN ?_ _ | refine blk_drew ?_ | refine blk_alloc ?_ _)); refine blk_far ?_ NB156_157.out _; (with_reducible repeat (first | refine blk_drewN ?_ _ | refine blk_drew ?_ | refine blk_alloc ?_ _)); exact BK156.out⟩, ⟨by (with_reducible repeat (first | refine blk_drewN ?_ _ | refine blk_drew ?_ | refine blk_alloc ?_ _)); refine blk_put (cs := #[.int .u64 t182, .int .u64 x158001_1]) ?_ 1 _ rfl; (with_reducible repeat (first | refine blk_drewN ?_ _ | refine blk_drew ?_ | refine blk_alloc ?_ _)); refine blk_put (cs := #[.int .u64 x158000_1, .int .u64 x158001_1]) ?_ 0 _ rfl; (with_reducible repeat (first | refine blk_drewN ?_ _ | refine blk_drew ?_ | refine blk_alloc ?_ _)); exact BK157.out⟩, ⟨by repeat (first | (with_reducible first | exact HB.out | apply below_alloc | apply pw_below_drewN | apply below_drew1 | refine below_set ?_ GE154.out | refine below_set ?_ GE155.out | refine below_set ?_ GE156.out | refine below_set ?_ GE157.out) | exact HB.out)⟩⟩
         ·rw [if_neg c123] at H
          have c123b0 : (t159 == 2) = false := beq_eq_false_iff_ne.mpr c123
          have c123b1 : (t159 != 2) = true := bne_iff_ne.mpr c123
          replace H := Option.bind_eq_some_iff.mp H
          obtain ⟨⟨t184, t185⟩, A1340, H⟩ := H
          replace H : (wardenref03_Bits.l0 k1 a2 (wrap64 (x8_1 + 1)) a0_0 a0_1 a1_0 a1_1 t184 t185) = some (r1, r2) := H
          have A134 := am A1340
          clear A1340
          have H' := am H
          clear H
          try go_wp2
          have n0_ := am (blk_drew BK154.out)
          have n1_ := am (blk_drew BK155.out)
          have n2_ := am (blk_drew BK156.out)
          have n3_ := am (blk_drew BK157.out)
          have n4_ := am (below_drew1 HB.out)
          clear BK154
          clear BK155
          clear BK156
          clear BK157
          clear HB
          have BK154 := n0_
          have BK155 := n1_
          have BK156 := n2_
          have BK157 := n3_
          have HB := n4_
          clear n0_ n1_ n2_ n3_ n4_
          refine start_ (n := 8) (S := fun w' => w'.cell? ⟨gb154, 0, none⟩ = some (.int .u64 a0_0) ∧ w'.cell? ⟨gb154, 1, none⟩ = some (.int .u64 a0_1) ∧ w'.cell? ⟨gb155, 0, none⟩ = some (.int .u64 a1_0) ∧ w'.cell? ⟨gb155, 1, none⟩ = some (.int .u64 a1_1)) (ds := []) (ar 8 0) (by kernel_rfl) rfl rfl ⟨(blk_cell BK154.out 0).trans rfl, (blk_cell BK154.out 1).trans rfl, (blk_cell BK155.out 0).trans rfl, (blk_cell BK155.out 1).trans rfl⟩ (fun hHeld => ?_); refine with_tabW wardenref03_Bits.tab5 wardenref03_Bits.bits5 (fun HT_ HW_ => ?_)
          generalize wr.drew = w135 at BK154 BK155 BK156 BK157 HB hHeld ⊢
          refine pure_ (i := 1) (N := some 18) (v := ?_) (a' := ?_) (ar 8 2) rfl rfl (any_of HT_.out (by kernel_rfl)) (fun _ _ _ h => h) (Or.inl ⟨by rfl, ?_⟩) ?_ ?_
          rotate_left
          ·intro w'
           go_simp
           with_reducible rfl
          rotate_left
          ·simp only [Act.put, q1, q2, q3, i64_w, i32_w]
           rfl
          refine pure_ (i := 4) (N := some 21) (v := ?_) (a' := ?_) (ar 8 18) rfl rfl (any_of HT_.out (by kernel_rfl)) (fun _ _ _ h => h) (Or.inl ⟨by rfl, ?_⟩) ?_ ?_
          rotate_left
          ·intro w'
           go_simp
           with_reducible rfl
          rotate_left
          ·simp only [Act.put, q1, q2, q3, i64_w, i32_w]
           rfl
          refine take_ (i := 0) (N := some 17) (v := ?_) (a' := ?_) (ar 8 19) rfl rfl (take_ofW HT_.out HW_.out (by kernel_rfl)) (fun _ _ _ h => h) (Or.inl ⟨by rfl, ?_⟩) hHeld ?_ ?_
          rotate_left
          ·rintro w' ⟨s0, s1, s2, s3⟩
           go_simp
           with_reducible rfl
          rotate_left
          ·simp only [Act.put, q1, q2, q3, i64_w, i32_w]
           rfl
          refine take_ (i := 3) (N := some 20) (v := ?_) (a' := ?_) (ar 8 27) rfl rfl (take_ofW HT_.out HW_.out (by kernel_rfl)) (fun _ _ _ h => h) (Or.inl ⟨by rfl, ?_⟩) hHeld ?_ ?_
          rotate_left
          ·rintro w' ⟨s0, s1, s2, s3⟩
           go_simp
           with_reducible rfl
          rotate_left
          ·simp only [Act.put, q1, q2, q3, i64_w, i32_w]
           rfl
          refine one_ (i := 2) (N := some 19) (ar 8 31) rfl rfl (one_of HT_.out (by kernel_rfl)) (by decide) (fun K hK => ?_)
          refine goes_ Try.func40 (by kernel_rfl) rfl #[.agg #[.int .u64 a0_0, .int .u64 a0_1], .int .i64 x8_1] (by rfl) rfl rfl (by (try simp only [List.map_toArray, List.map_cons, List.map_nil]); first | done | rfl) ?_
          with_reducible refine (wardenref03_bit.calls a0_0 a0_1 x8_1 t158 _ A13.out).mono ?_
          rintro e w136 ⟨rfl, hb⟩
          refine ⟨_, rfl, ?_⟩
          have n0_ := am (blk_below BK154.out hb)
          have n1_ := am (blk_below BK155.out hb)
          have n2_ := am (blk_below BK156.out hb)
          have n3_ := am (blk_below BK157.out hb)
          have n4_ := am (below_step (by repeat (first | exact HB.out | refine below_set ?_ GE154.out | refine below_set ?_ GE155.out | refine below_set ?_ GE156.out | refine below_set ?_ GE157.out)) hb)
          clear BK154
          clear BK155
          clear BK156
          clear BK157
          clear HB
          have BK154 := n0_
          have BK155 := n1_
          have BK156 := n2_
          have BK157 := n3_
          have HB := n4_
          clear n0_ n1_ n2_ n3_ n4_
          (try clear hb)
          (try clear hb2)
          (try clear hk)
          (try clear hi)
          refine hK.out _ _ ⟨(blk_cell BK154.out 0).trans rfl, (blk_cell BK154.out 1).trans rfl, (blk_cell BK155.out 0).trans rfl, (blk_cell BK155.out 1).trans rfl⟩ (fun hHeld => ?_)
          clear hK K
          refine norm_ (a' := ?_) ?_ ?_
          rotate_left
          ·show Act.put _ (some 19) _ = _
           simp only [Act.put, q1, q2, q3, i64_w, i32_w]
           rfl
          refine one_ (i := 5) (N := some 22) (ar 8 63) rfl rfl (one_of HT_.out (by kernel_rfl)) (by decide) (fun K hK => ?_)
          refine goes_ Try.func40 (by kernel_rfl) rfl #[.agg #[.int .u64 a1_0, .int .u64 a1_1], .int .i64 x8_1] (by rfl) rfl rfl (by (try simp only [List.map_toArray, List.map_cons, List.map_nil]); first | done | rfl) ?_
          with_reducible refine (wardenref03_bit.calls a1_0 a1_1 x8_1 t159 _ A14.out).mono ?_
          rintro e w137 ⟨rfl, hb⟩
          refine ⟨_, rfl, ?_⟩
          have n0_ := am (blk_below BK154.out hb)
          have n1_ := am (blk_below BK155.out hb)
          have n2_ := am (blk_below BK156.out hb)
          have n3_ := am (blk_below BK157.out hb)
          have n4_ := am (below_step (by repeat (first | exact HB.out | refine below_set ?_ GE154.out | refine below_set ?_ GE155.out | refine below_set ?_ GE156.out | refine below_set ?_ GE157.out)) hb)
          clear BK154
          clear BK155
          clear BK156
          clear BK157
          clear HB
          have BK154 := n0_
          have BK155 := n1_
          have BK156 := n2_
          have BK157 := n3_
          have HB := n4_
          clear n0_ n1_ n2_ n3_ n4_
          (try clear hb)
          (try clear hb2)
          (try clear hk)
          (try clear hi)
          refine hK.out _ _ ⟨(blk_cell BK154.out 0).trans rfl, (blk_cell BK154.out 1).trans rfl, (blk_cell BK155.out 0).trans rfl, (blk_cell BK155.out 1).trans rfl⟩ (fun hHeld => ?_)
          clear hK K
          refine norm_ (a' := ?_) ?_ ?_
          rotate_left
          ·show Act.put _ (some 22) _ = _
           simp only [Act.put, q1, q2, q3, i64_w, i32_w]
           rfl
          refine pure_ (i := 6) (N := some 9) (v := ?_) (a' := ?_) (ar 8 127) rfl rfl (any_of HT_.out (by kernel_rfl)) (fun _ _ _ h => h) (Or.inl ⟨by rfl, ?_⟩) ?_ ?_
          rotate_left
          ·intro w'
           go_simp
           with_reducible rfl
          rotate_left
          ·simp only [Act.put, q1, q2, q3, i64_w, i32_w]
           rfl
          refine pure_ (i := 7) (N := some 10) (v := ?_) (a' := ?_) (ar 8 255) rfl rfl (any_of HT_.out (by kernel_rfl)) (fun _ _ _ h => h) (Or.inl ⟨by rfl, ?_⟩) ?_ ?_
          rotate_left
          ·intro w'
           go_simp
           with_reducible rfl
          rotate_left
          ·simp only [Act.put, q1, q2, q3, i64_w, i32_w]
           rfl
          refine done_ (done_of HT_.out (by kernel_rfl)) ?_
          have hnb138 := NB157_154.out
          have hnc138 := NB154_157.out
          have hnb139 := NB157_155.out
          have hnc139 := NB155_157.out
          have hnb140 := NB157_156.out
          have hnc140 := NB156_157.out
          have hcz141_0 : w137.cell? ⟨gb157, 0, none⟩ = some (.int .u64 x158000_1) := (blk_cell BK157.out 0).trans rfl
          have hcz141_1 : w137.cell? ⟨gb157, 1, none⟩ = some (.int .u64 x158001_1) := (blk_cell BK157.out 1).trans rfl
          have hfz141_0 := blk_frozen BK157.out 0
          have hfz141_1 := blk_frozen BK157.out 1
          try go_wp2_with (first | ((with_reducible refine gate_callee (f := 41) rfl ?_); refine goesL_ (some 72) rfl rfl Try.func41 (by kernel_rfl) rfl #[.agg #[.int .u64 x158000_1, .int .u64 x158001_1], .int .i64 x8_1, .int .i64 (Go.bits .xor .i64 t158 t159)] rfl (by (try simp only [List.map_toArray, List.map_cons, List.map_nil]); first | done | rfl) ?_; (with_reducible refine (wardenref03_put.calls x158000_1 x158001_1 x8_1 (Go.bits .xor .i64 t158 t159) t184 t185 _ A134.out).mono ?_); rintro e w142 ⟨rfl, hb⟩; refine ⟨_, rfl, ?_⟩; have n0_ := am (blk_below BK154.out hb); have n1_ := am (blk_below BK155.out hb); have n2_ := am (blk_below BK156.out hb); have n3_ := am (blk_below BK157.out hb); have n4_ := am (below_step (by repeat (first | exact HB.out | refine below_set ?_ GE154.out | refine below_set ?_ GE155.out | refine below_set ?_ GE156.out | refine below_set ?_ GE157.out)) hb); clear BK154; clear BK155; clear BK156; clear BK157; clear HB; have BK154 := n0_; have BK155 := n1_; have BK156 := n2_; have BK157 := n3_; have HB := n4_; clear n0_ n1_ n2_ n3_ n4_; (try clear hb); (try clear hb2); (try clear hk); (try clear hi); have hcz143_0 : w142.cell? ⟨gb157, 0, none⟩ = some (.int .u64 x158000_1) := (blk_cell BK157.out 0).trans rfl; have hcz143_1 : w142.cell? ⟨gb157, 1, none⟩ = some (.int .u64 x158001_1) := (blk_cell BK157.out 1).trans rfl; have hfz143_0 := blk_frozen BK157.out 0; have hfz143_1 := blk_frozen BK157.out 1))
          go_roundg k1
          case measure => have := HK1.out; omega
          case rel => exact ⟨(wrap64 (x8_1 + 1)), (t184), (t185), (by first | rfl | (simp; done) | (simp [*]; done)), H', ⟨by have := HK1.out; omega⟩, ⟨by (with_reducible repeat (first | refine blk_drewN ?_ _ | refine blk_drew ?_ | refine blk_alloc ?_ _)); refine blk_far ?_ NB154_157.out _; (with_reducible repeat (first | refine blk_drewN ?_ _ | refine blk_drew ?_ | refine blk_alloc ?_ _)); refine blk_far ?_ NB154_157.out _; (with_reducible repeat (first | refine blk_drewN ?_ _ | refine blk_drew ?_ | refine blk_alloc ?_ _)); exact BK154.out⟩, ⟨by (with_reducible repeat (first | refine blk_drewN ?_ _ | refine blk_drew ?_ | refine blk_alloc ?_ _)); refine blk_far ?_ NB155_157.out _; (with_reducible repeat (first | refine blk_drewN ?_ _ | refine blk_drew ?_ | refine blk_alloc ?_ _)); refine blk_far ?_ NB155_157.out _; (with_reducible repeat (first | refine blk_drewN ?_ _ | refine blk_drew ?_ | refine blk_alloc ?_ _)); exact BK155.out⟩, ⟨by (with_reducible repeat (first | refine blk_drewN ?_ _ | refine blk_drew ?_ | refine blk_alloc ?_ _)); refine blk_far ?_ NB156_157.out _; (with_reducible repeat (first | refine blk_drewN ?_ _ | refine blk_drew ?_ | refine blk_alloc ?_ _)); refine blk_far ?_ NB156_157.out _; (with_reducible repeat (first | refine blk_drewN ?_ _ | refine blk_drew ?_ | refine blk_alloc ?_ _)); exact BK156.out⟩, ⟨by (with_reducible repeat (first | refine blk_drewN ?_ _ | refine blk_drew ?_ | refine blk_alloc ?_ _)); refine blk_put (cs := #[.int .u64 t184, .int .u64 x158001_1]) ?_ 1 _ rfl; (with_reducible repeat (first | refine blk_drewN ?_ _ | refine blk_drew ?_ | refine blk_alloc ?_ _)); refine blk_put (cs := #[.int .u64 x158000_1, .int .u64 x158001_1]) ?_ 0 _ rfl; (with_reducible repeat (first | refine blk_drewN ?_ _ | refine blk_drew ?_ | refine blk_alloc ?_ _)); exact BK157.out⟩, ⟨by repeat (first | (with_reducible first | exact HB.out | apply below_alloc | apply pw_below_drewN | apply below_drew1 | refine below_set ?_ GE154.out | refine below_set ?_ GE155.out | refine below_set ?_ GE156.out | refine below_set ?_ GE157.out) | exact HB.out)⟩⟩
       ·rw [if_neg c111] at H
        have c111b0 : (a2 == 3) = false := beq_eq_false_iff_ne.mpr c111
        have c111b1 : (a2 != 3) = true := bne_iff_ne.mpr c111
        replace H := Option.bind_eq_some_iff.mp H
        obtain ⟨⟨t186, t187⟩, A1440, H⟩ := H
        replace H : (wardenref03_Bits.l0 k1 a2 (wrap64 (x8_1 + 1)) a0_0 a0_1 a1_0 a1_1 t186 t187) = some (r1, r2) := H
        have A144 := am A1440
        clear A1440
        have H' := am H
        clear H
        try go_wp2
        have n0_ := am (blk_drew BK154.out)
        have n1_ := am (blk_drew BK155.out)
        have n2_ := am (blk_drew BK156.out)
        have n3_ := am (blk_drew BK157.out)
        have n4_ := am (below_drew1 HB.out)
        clear BK154
        clear BK155
        clear BK156
        clear BK157
        clear HB
        have BK154 := n0_
        have BK155 := n1_
        have BK156 := n2_
        have BK157 := n3_
        have HB := n4_
        clear n0_ n1_ n2_ n3_ n4_
        refine start_ (n := 8) (S := fun w' => w'.cell? ⟨gb154, 0, none⟩ = some (.int .u64 a0_0) ∧ w'.cell? ⟨gb154, 1, none⟩ = some (.int .u64 a0_1) ∧ w'.cell? ⟨gb155, 0, none⟩ = some (.int .u64 a1_0) ∧ w'.cell? ⟨gb155, 1, none⟩ = some (.int .u64 a1_1)) (ds := []) (ar 8 0) (by kernel_rfl) rfl rfl ⟨(blk_cell BK154.out 0).trans rfl, (blk_cell BK154.out 1).trans rfl, (blk_cell BK155.out 0).trans rfl, (blk_cell BK155.out 1).trans rfl⟩ (fun hHeld => ?_); refine with_tabW wardenref03_Bits.tab5 wardenref03_Bits.bits5 (fun HT_ HW_ => ?_)
        generalize wr.drew = w145 at BK154 BK155 BK156 BK157 HB hHeld ⊢
        refine pure_ (i := 1) (N := some 18) (v := ?_) (a' := ?_) (ar 8 2) rfl rfl (any_of HT_.out (by kernel_rfl)) (fun _ _ _ h => h) (Or.inl ⟨by rfl, ?_⟩) ?_ ?_
        rotate_left
        ·intro w'
         go_simp
         with_reducible rfl
        rotate_left
        ·simp only [Act.put, q1, q2, q3, i64_w, i32_w]
         rfl
        refine pure_ (i := 4) (N := some 21) (v := ?_) (a' := ?_) (ar 8 18) rfl rfl (any_of HT_.out (by kernel_rfl)) (fun _ _ _ h => h) (Or.inl ⟨by rfl, ?_⟩) ?_ ?_
        rotate_left
        ·intro w'
         go_simp
         with_reducible rfl
        rotate_left
        ·simp only [Act.put, q1, q2, q3, i64_w, i32_w]
         rfl
        refine take_ (i := 0) (N := some 17) (v := ?_) (a' := ?_) (ar 8 19) rfl rfl (take_ofW HT_.out HW_.out (by kernel_rfl)) (fun _ _ _ h => h) (Or.inl ⟨by rfl, ?_⟩) hHeld ?_ ?_
        rotate_left
        ·rintro w' ⟨s0, s1, s2, s3⟩
         go_simp
         with_reducible rfl
        rotate_left
        ·simp only [Act.put, q1, q2, q3, i64_w, i32_w]
         rfl
        refine take_ (i := 3) (N := some 20) (v := ?_) (a' := ?_) (ar 8 27) rfl rfl (take_ofW HT_.out HW_.out (by kernel_rfl)) (fun _ _ _ h => h) (Or.inl ⟨by rfl, ?_⟩) hHeld ?_ ?_
        rotate_left
        ·rintro w' ⟨s0, s1, s2, s3⟩
         go_simp
         with_reducible rfl
        rotate_left
        ·simp only [Act.put, q1, q2, q3, i64_w, i32_w]
         rfl
        refine one_ (i := 2) (N := some 19) (ar 8 31) rfl rfl (one_of HT_.out (by kernel_rfl)) (by decide) (fun K hK => ?_)
        refine goes_ Try.func40 (by kernel_rfl) rfl #[.agg #[.int .u64 a0_0, .int .u64 a0_1], .int .i64 x8_1] (by rfl) rfl rfl (by (try simp only [List.map_toArray, List.map_cons, List.map_nil]); first | done | rfl) ?_
        with_reducible refine (wardenref03_bit.calls a0_0 a0_1 x8_1 t158 _ A13.out).mono ?_
        rintro e w146 ⟨rfl, hb⟩
        refine ⟨_, rfl, ?_⟩
        have n0_ := am (blk_below BK154.out hb)
        have n1_ := am (blk_below BK155.out hb)
        have n2_ := am (blk_below BK156.out hb)
        have n3_ := am (blk_below BK157.out hb)
        have n4_ := am (below_step (by repeat (first | exact HB.out | refine below_set ?_ GE154.out | refine below_set ?_ GE155.out | refine below_set ?_ GE156.out | refine below_set ?_ GE157.out)) hb)
        clear BK154
        clear BK155
        clear BK156
        clear BK157
        clear HB
        have BK154 := n0_
        have BK155 := n1_
        have BK156 := n2_
        have BK157 := n3_
        have HB := n4_
        clear n0_ n1_ n2_ n3_ n4_
        (try clear hb)
        (try clear hb2)
        (try clear hk)
        (try clear hi)
        refine hK.out _ _ ⟨(blk_cell BK154.out 0).trans rfl, (blk_cell BK154.out 1).trans rfl, (blk_cell BK155.out 0).trans rfl, (blk_cell BK155.out 1).trans rfl⟩ (fun hHeld => ?_)
        clear hK K
        refine norm_ (a' := ?_) ?_ ?_
        rotate_left
        ·show Act.put _ (some 19) _ = _
         simp only [Act.put, q1, q2, q3, i64_w, i32_w]
         rfl
        refine one_ (i := 5) (N := some 22) (ar 8 63) rfl rfl (one_of HT_.out (by kernel_rfl)) (by decide) (fun K hK => ?_)
        refine goes_ Try.func40 (by kernel_rfl) rfl #[.agg #[.int .u64 a1_0, .int .u64 a1_1], .int .i64 x8_1] (by rfl) rfl rfl (by (try simp only [List.map_toArray, List.map_cons, List.map_nil]); first | done | rfl) ?_
        with_reducible refine (wardenref03_bit.calls a1_0 a1_1 x8_1 t159 _ A14.out).mono ?_
        rintro e w147 ⟨rfl, hb⟩
        refine ⟨_, rfl, ?_⟩
        have n0_ := am (blk_below BK154.out hb)
        have n1_ := am (blk_below BK155.out hb)
        have n2_ := am (blk_below BK156.out hb)
        have n3_ := am (blk_below BK157.out hb)
        have n4_ := am (below_step (by repeat (first | exact HB.out | refine below_set ?_ GE154.out | refine below_set ?_ GE155.out | refine below_set ?_ GE156.out | refine below_set ?_ GE157.out)) hb)
        clear BK154
        clear BK155
        clear BK156
        clear BK157
        clear HB
        have BK154 := n0_
        have BK155 := n1_
        have BK156 := n2_
        have BK157 := n3_
        have HB := n4_
        clear n0_ n1_ n2_ n3_ n4_
        (try clear hb)
        (try clear hb2)
        (try clear hk)
        (try clear hi)
        refine hK.out _ _ ⟨(blk_cell BK154.out 0).trans rfl, (blk_cell BK154.out 1).trans rfl, (blk_cell BK155.out 0).trans rfl, (blk_cell BK155.out 1).trans rfl⟩ (fun hHeld => ?_)
        clear hK K
        refine norm_ (a' := ?_) ?_ ?_
        rotate_left
        ·show Act.put _ (some 22) _ = _
         simp only [Act.put, q1, q2, q3, i64_w, i32_w]
         rfl
        refine pure_ (i := 6) (N := some 9) (v := ?_) (a' := ?_) (ar 8 127) rfl rfl (any_of HT_.out (by kernel_rfl)) (fun _ _ _ h => h) (Or.inl ⟨by rfl, ?_⟩) ?_ ?_
        rotate_left
        ·intro w'
         go_simp
         with_reducible rfl
        rotate_left
        ·simp only [Act.put, q1, q2, q3, i64_w, i32_w]
         rfl
        refine pure_ (i := 7) (N := some 10) (v := ?_) (a' := ?_) (ar 8 255) rfl rfl (any_of HT_.out (by kernel_rfl)) (fun _ _ _ h => h) (Or.inl ⟨by rfl, ?_⟩) ?_ ?_
        rotate_left
        ·intro w'
         go_simp
         with_reducible rfl
        rotate_left
        ·simp only [Act.put, q1, q2, q3, i64_w, i32_w]
         rfl
        refine done_ (done_of HT_.out (by kernel_rfl)) ?_
        have hnb148 := NB157_154.out
        have hnc148 := NB154_157.out
        have hnb149 := NB157_155.out
        have hnc149 := NB155_157.out
        have hnb150 := NB157_156.out
        have hnc150 := NB156_157.out
        have hcz151_0 : w147.cell? ⟨gb157, 0, none⟩ = some (.int .u64 x158000_1) := (blk_cell BK157.out 0).trans rfl
        have hcz151_1 : w147.cell? ⟨gb157, 1, none⟩ = some (.int .u64 x158001_1) := (blk_cell BK157.out 1).trans rfl
        have hfz151_0 := blk_frozen BK157.out 0
        have hfz151_1 := blk_frozen BK157.out 1
        try go_wp2_with (first | ((with_reducible refine gate_callee (f := 41) rfl ?_); refine goesL_ (some 72) rfl rfl Try.func41 (by kernel_rfl) rfl #[.agg #[.int .u64 x158000_1, .int .u64 x158001_1], .int .i64 x8_1, .int .i64 2] rfl (by (try simp only [List.map_toArray, List.map_cons, List.map_nil]); first | done | rfl) ?_; (with_reducible refine (wardenref03_put.calls x158000_1 x158001_1 x8_1 2 t186 t187 _ A144.out).mono ?_); rintro e w152 ⟨rfl, hb⟩; refine ⟨_, rfl, ?_⟩; have n0_ := am (blk_below BK154.out hb); have n1_ := am (blk_below BK155.out hb); have n2_ := am (blk_below BK156.out hb); have n3_ := am (blk_below BK157.out hb); have n4_ := am (below_step (by repeat (first | exact HB.out | refine below_set ?_ GE154.out | refine below_set ?_ GE155.out | refine below_set ?_ GE156.out | refine below_set ?_ GE157.out)) hb); clear BK154; clear BK155; clear BK156; clear BK157; clear HB; have BK154 := n0_; have BK155 := n1_; have BK156 := n2_; have BK157 := n3_; have HB := n4_; clear n0_ n1_ n2_ n3_ n4_; (try clear hb); (try clear hb2); (try clear hk); (try clear hi); have hcz153_0 : w152.cell? ⟨gb157, 0, none⟩ = some (.int .u64 x158000_1) := (blk_cell BK157.out 0).trans rfl; have hcz153_1 : w152.cell? ⟨gb157, 1, none⟩ = some (.int .u64 x158001_1) := (blk_cell BK157.out 1).trans rfl; have hfz153_0 := blk_frozen BK157.out 0; have hfz153_1 := blk_frozen BK157.out 1))
        go_roundg k1
        case measure => have := HK1.out; omega
        case rel => exact ⟨(wrap64 (x8_1 + 1)), (t186), (t187), (by first | rfl | (simp; done) | (simp [*]; done)), H', ⟨by have := HK1.out; omega⟩, ⟨by (with_reducible repeat (first | refine blk_drewN ?_ _ | refine blk_drew ?_ | refine blk_alloc ?_ _)); refine blk_far ?_ NB154_157.out _; (with_reducible repeat (first | refine blk_drewN ?_ _ | refine blk_drew ?_ | refine blk_alloc ?_ _)); refine blk_far ?_ NB154_157.out _; (with_reducible repeat (first | refine blk_drewN ?_ _ | refine blk_drew ?_ | refine blk_alloc ?_ _)); exact BK154.out⟩, ⟨by (with_reducible repeat (first | refine blk_drewN ?_ _ | refine blk_drew ?_ | refine blk_alloc ?_ _)); refine blk_far ?_ NB155_157.out _; (with_reducible repeat (first | refine blk_drewN ?_ _ | refine blk_drew ?_ | refine blk_alloc ?_ _)); refine blk_far ?_ NB155_157.out _; (with_reducible repeat (first | refine blk_drewN ?_ _ | refine blk_drew ?_ | refine blk_alloc ?_ _)); exact BK155.out⟩, ⟨by (with_reducible repeat (first | refine blk_drewN ?_ _ | refine blk_drew ?_ | refine blk_alloc ?_ _)); refine blk_far ?_ NB156_157.out _; (with_reducible repeat (first | refine blk_drewN ?_ _ | refine blk_drew ?_ | refine blk_alloc ?_ _)); refine blk_far ?_ NB156_157.out _; (with_reducible repeat (first | refine blk_drewN ?_ _ | refine blk_drew ?_ | refine blk_alloc ?_ _)); exact BK156.out⟩, ⟨by (with_reducible repeat (first | refine blk_drewN ?_ _ | refine blk_drew ?_ | refine blk_alloc ?_ _)); refine blk_put (cs := #[.int .u64 t186, .int .u64 x158001_1]) ?_ 1 _ rfl; (with_reducible repeat (first | refine blk_drewN ?_ _ | refine blk_drew ?_ | refine blk_alloc ?_ _)); refine blk_put (cs := #[.int .u64 x158000_1, .int .u64 x158001_1]) ?_ 0 _ rfl; (with_reducible repeat (first | refine blk_drewN ?_ _ | refine blk_drew ?_ | refine blk_alloc ?_ _)); exact BK157.out⟩, ⟨by repeat (first | (with_reducible first | exact HB.out | apply below_alloc | apply pw_below_drewN | apply below_drew1 | refine below_set ?_ GE154.out | refine below_set ?_ GE155.out | refine below_set ?_ GE156.out | refine below_set ?_ GE157.out) | exact HB.out)⟩⟩
   ·rw [if_neg c12] at H
    have c12b0 : decide (x8_1 < 64) = false := decide_eq_false c12
    clear c12
    simp only [Option.some.injEq, Prod.mk.injEq] at H
    obtain ⟨rfl, rfl⟩ := H
    have hnb154 := NB157_154.out
    have hnc154 := NB154_157.out
    have hnb155 := NB157_155.out
    have hnc155 := NB155_157.out
    have hnb156 := NB157_156.out
    have hnc156 := NB156_157.out
    have hcz157_0 : wr.cell? ⟨gb157, 0, none⟩ = some (.int .u64 x158000_1) := (blk_cell BK157.out 0).trans rfl
    have hcz157_1 : wr.cell? ⟨gb157, 1, none⟩ = some (.int .u64 x158001_1) := (blk_cell BK157.out 1).trans rfl
    have hfz157_0 := blk_frozen BK157.out 0
    have hfz157_1 := blk_frozen BK157.out 1
    have hnb158 := NB156_154.out
    have hnc158 := NB154_156.out
    have hnb159 := NB156_155.out
    have hnc159 := NB155_156.out
    have hcz160_0 : wr.cell? ⟨gb156, 0, none⟩ = some (.int .u64 0) := (blk_cell BK156.out 0).trans rfl
    have hcz160_1 : wr.cell? ⟨gb156, 1, none⟩ = some (.int .u64 0) := (blk_cell BK156.out 1).trans rfl
    have hfz160_0 := blk_frozen BK156.out 0
    have hfz160_1 := blk_frozen BK156.out 1
    go_wp2
    refine bodyPost_ret (results_cell_row rfl _ _ gb156 24 #[.int .u64 x158000_1, .int .u64 x158001_1] (0, 0) _ rfl (by (with_reducible repeat (first | refine blk_drewN ?_ _ | refine blk_drew ?_ | refine blk_alloc ?_ _)); refine blk_put (cs := #[.int .u64 x158000_1, .int .u64 0]) ?_ 1 _ rfl; (with_reducible repeat (first | refine blk_drewN ?_ _ | refine blk_drew ?_ | refine blk_alloc ?_ _)); refine blk_put (cs := #[.int .u64 0, .int .u64 0]) ?_ 0 _ rfl; (with_reducible repeat (first | refine blk_drewN ?_ _ | refine blk_drew ?_ | refine blk_alloc ?_ _)); exact BK156.out) Try.underlying24 rfl (by kernel_rfl)) rfl ?_
    exact ⟨by first | rfl | (simp [errW_none, errW_some] <;> rfl) | (simp [*, errW_none, errW_some] <;> rfl), by repeat (first | (with_reducible first | exact HB.out | apply below_alloc | apply pw_below_drewN | apply below_drew1 | refine below_set ?_ GE154.out | refine below_set ?_ GE155.out | refine below_set ?_ GE156.out | refine below_set ?_ GE157.out) | exact HB.out)⟩

end Go.Proofs.Ytnljfoaacngamaa.PD
