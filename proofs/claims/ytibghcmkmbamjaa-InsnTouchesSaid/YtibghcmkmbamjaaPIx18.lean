-- turned from the kit's print
import Derived.Test.YtibghcmkmbamjaaPIx0
import Derived.Test.YtibghcmkmbamjaaShort
import Derived.Test.YtibghcmkmbamjaaPIx9
import Derived.Test.YtibghcmkmbamjaaPIx9b
import Derived.Test.YtibghcmkmbamjaaPIx12
import Derived.Test.YtibghcmkmbamjaaPIx15
namespace Go.Proofs.Ytibghcmkmbamjaa.PI
open Go.RowKit Go.Proofs.YtibghcmkmbamjaaW.PrintWords Go.Proofs.YtibghcmkmbamjaaW.PrintLast Go.Proofs.YtibghcmkmbamjaaW.PrintMore
attribute [local go_sem] max2_int min2_int max_two min_two max_three min_three max_four min_four   -- for this text's walks alone
set_option linter.unusedVariables false
set_option linter.unusedSimpArgs false

/-! ### wardenref07_Writes: function 28 -/
def wardenref07_Writes.j0 : Nat → Int → Bool → Int → Int → Int → Int → Int → Option (Int × Bool)
 | 0, _, _, _, _, _, _, _ => none
 | k + 1, x5, x6, x358000, x358001, x358002, x358003, x358004 => if x6 = true then (some (x358001, true)) else (if x5 = 6 then (some (0, true)) else (if x5 = 7 then (some (0, true)) else (some (0, false))))
def wardenref07_Writes.f (k : Nat) (a0_0 : Int) (a0_1 : Int) (a0_2 : Int) (a0_3 : Int) (a0_4 : Int) : Option (Int × Bool) := (wardenref07_Kind.f k a0_0 a0_1 a0_2 a0_3 a0_4).bind fun t358 => (if t358 = 1 then (wardenref07_Writes.j0 k t358 (t358 == 1) a0_0 a0_1 a0_2 a0_3 a0_4) else (if t358 = 2 then (wardenref07_Writes.j0 k t358 (t358 == 2) a0_0 a0_1 a0_2 a0_3 a0_4) else (wardenref07_Writes.j0 k t358 (t358 == 9) a0_0 a0_1 a0_2 a0_3 a0_4)))
theorem wardenref07_Writes.mono_l : ∀ k, (∀ y0 y1 y2 y3 y4 y5 y6, LeO (wardenref07_Writes.j0 k y0 y1 y2 y3 y4 y5 y6) (wardenref07_Writes.j0 (k + 1) y0 y1 y2 y3 y4 y5 y6))
 | 0 => fun _ _ _ _ _ _ _ r h => by simp [wardenref07_Writes.j0] at h
 | k + 1 => by
  have ih0 := wardenref07_Writes.mono_l k
  ·intro y0 y1 y2 y3 y4 y5 y6
   unfold wardenref07_Writes.j0
   repeat' first
   | (with_reducible exact ih0 _ _ _ _ _ _ _)
   | (with_reducible exact wardenref07_Kind.mono _ _ _ _ _ _)
   | (with_reducible exact LeO.refl _)
   | (with_reducible exact LeO.none _)
   | (with_reducible refine LeO.ite ?_ ?_)
   | (with_reducible refine LeO.bind ?_ (fun _ => ?_))
   | exact ih0 _ _ _ _ _ _ _
   | exact wardenref07_Kind.mono _ _ _ _ _ _
   | exact LeO.none _
   | refine LeO.ite ?_ ?_
   | refine LeO.bind ?_ (fun _ => ?_)
theorem wardenref07_Writes.mono : ∀ a0 a1 a2 a3 a4 k, LeO (wardenref07_Writes.f k a0 a1 a2 a3 a4) (wardenref07_Writes.f (k + 1) a0 a1 a2 a3 a4) := by
 intro a0 a1 a2 a3 a4 k
 have ih0 := wardenref07_Writes.mono_l k
 unfold wardenref07_Writes.f
 repeat' first
   | (with_reducible exact ih0 _ _ _ _ _ _ _)
   | (with_reducible exact wardenref07_Kind.mono _ _ _ _ _ _)
   | (with_reducible exact LeO.refl _)
   | (with_reducible exact LeO.none _)
   | (with_reducible refine LeO.ite ?_ ?_)
   | (with_reducible refine LeO.bind ?_ (fun _ => ?_))
   | exact ih0 _ _ _ _ _ _ _
   | exact wardenref07_Kind.mono _ _ _ _ _ _
   | exact LeO.none _
   | refine LeO.ite ?_ ?_
   | refine LeO.bind ?_ (fun _ => ?_)
set_option maxHeartbeats 8000000 in
set_option maxRecDepth 100000 in
theorem wardenref07_Writes.calls (k : Nat) (a0_0 : Int) (a0_1 : Int) (a0_2 : Int) (a0_3 : Int) (a0_4 : Int) (r1 : Int) (r2 : Bool) (w : World) (h : wardenref07_Writes.f k a0_0 a0_1 a0_2 a0_3 a0_4 = some (r1, r2)) :
  Calls Try.prog 28 #[.agg #[.int .u8 a0_0, .int .u8 a0_1, .int .u8 a0_2, .int .i16 a0_3, .int .i32 a0_4]] w fun e w' => e = .returned (.tuple #[.int .u8 r1, .bool r2]) ∧ Below w.heap.size w w' := by
 have hu24 := Try.underlying24
 have HB := am (Below.refl w.heap.size w)
 have H : ((wardenref07_Kind.f k a0_0 a0_1 a0_2 a0_3 a0_4).bind fun t358 => (if t358 = 1 then (wardenref07_Writes.j0 k t358 (t358 == 1) a0_0 a0_1 a0_2 a0_3 a0_4) else (if t358 = 2 then (wardenref07_Writes.j0 k t358 (t358 == 2) a0_0 a0_1 a0_2 a0_3 a0_4) else (wardenref07_Writes.j0 k t358 (t358 == 9) a0_0 a0_1 a0_2 a0_3 a0_4)))) = some (r1, r2) := h
 clear h
 replace H := Option.bind_eq_some_iff.mp H
 obtain ⟨t358, A20, H⟩ := H
 replace H : (if t358 = 1 then (wardenref07_Writes.j0 k t358 (t358 == 1) a0_0 a0_1 a0_2 a0_3 a0_4) else (if t358 = 2 then (wardenref07_Writes.j0 k t358 (t358 == 2) a0_0 a0_1 a0_2 a0_3 a0_4) else (wardenref07_Writes.j0 k t358 (t358 == 9) a0_0 a0_1 a0_2 a0_3 a0_4))) = some (r1, r2) := H
 have A2 := am A20
 clear A20
 have HC3 := am H
 clear H
 go_enter Try.func28, Try.ntmps28
 go_upto_if 6 with (first | ((with_reducible refine gate_dst (N := 1) rfl ?_); refine box_event ?hg (N := 1) ?hd (cs := #[.int .u8 a0_0, .int .u8 a0_1, .int .u8 a0_2, .int .i16 a0_3, .int .i32 a0_4]) (t := 24) ?hr ?_; (case hd => rfl); (case hg => rfl); (case hr => first | (go_simp; done) | (go_simp; rfl)); intro gb357 hg w4 hbox hb; have n0_ := am (below_step (by repeat (first | exact HB.out | apply pb | apply pa | apply pd)) hb); have n1_ := am (hbox); have n2_ := am ((by rw [hg]; exact (below_size (by repeat (first | exact HB.out | apply pb | apply pa | apply pd))) : w.heap.size ≤ gb357)); have n3_ := am ((by rw [hg]; exact (below_size (by repeat (first | exact HB.out | apply pb | apply pa | apply pd))) : w.heap.size ≤ gb357)); clear HB; have HB := n0_; have BK357 := n1_; have GW357 := n2_; have GE357 := n3_; clear n0_ n1_ n2_ n3_; clear hb hbox hg; have hcz5_0 : w4.cell? ⟨gb357, 0, none⟩ = some (.int .u8 a0_0) := (blk_cell BK357.out 0).trans rfl; have hcz5_1 : w4.cell? ⟨gb357, 1, none⟩ = some (.int .u8 a0_1) := (blk_cell BK357.out 1).trans rfl; have hcz5_2 : w4.cell? ⟨gb357, 2, none⟩ = some (.int .u8 a0_2) := (blk_cell BK357.out 2).trans rfl; have hcz5_3 : w4.cell? ⟨gb357, 3, none⟩ = some (.int .i16 a0_3) := (blk_cell BK357.out 3).trans rfl; have hcz5_4 : w4.cell? ⟨gb357, 4, none⟩ = some (.int .i32 a0_4) := (blk_cell BK357.out 4).trans rfl; have hfz5_0 := blk_frozen BK357.out 0; have hfz5_1 := blk_frozen BK357.out 1; have hfz5_2 := blk_frozen BK357.out 2; have hfz5_3 := blk_frozen BK357.out 3; have hfz5_4 := blk_frozen BK357.out 4) | ((with_reducible refine gate_callee (f := 20) rfl ?_); refine goesL_ (some 5) rfl rfl Try.func20 (by kernel_rfl) rfl #[.agg #[.int .u8 a0_0, .int .u8 a0_1, .int .u8 a0_2, .int .i16 a0_3, .int .i32 a0_4]] rfl (by (try simp only [List.map_toArray, List.map_cons, List.map_nil]); first | done | rfl) ?_; (with_reducible refine (wardenref07_Kind.calls k a0_0 a0_1 a0_2 a0_3 a0_4 t358 _ A2.out).mono ?_); rintro e w6 ⟨rfl, hb⟩; refine ⟨_, rfl, ?_⟩; have n0_ := am (blk_below (g := gb357) (o := .cells #[.int .u8 a0_0, .int .u8 a0_1, .int .u8 a0_2, .int .i16 a0_3, .int .i32 a0_4] 24 (0, 0)) (by first | exact BK357.out | exact blk_drewN BK357.out _) hb); have n1_ := am (below_step (by repeat (first | exact HB.out | apply pb | apply pa | apply pd | refine below_set ?_ GE357.out)) hb); clear BK357; clear HB; have BK357 := n0_; have HB := n1_; clear n0_ n1_; (try clear hb); (try clear hb2); (try clear hk); (try clear hi)))
 (try simp only [Act.put, List.setIfInBounds_toArray, List.set_cons_zero, List.set_cons_succ])
 go_cut [6] (fun v6 wc => ∃ (kq : Nat) (x6_2 : Bool), v6 = .bool x6_2 ∧ Aside0 (wardenref07_Writes.j0 kq t358 x6_2 a0_0 a0_1 a0_2 a0_3 a0_4 = some (r1, r2)) ∧ Aside0 (kq ≤ k) ∧ Aside0 (wc.heap[gb357]? = some (.cells #[.int .u8 a0_0, .int .u8 a0_1, .int .u8 a0_2, .int .i16 a0_3, .int .i32 a0_4] 24 (0, 0))) ∧ Aside0 (Below w.heap.size w wc))
 case first =>
  have H := HC3.out
  clear HC3
  by_cases c7 : t358 = 1
  ·rw [if_pos c7] at H
   have c7b0 : (t358 == 1) = true := beq_iff_eq.mpr c7
   have c7b1 : (t358 != 1) = false := bne_eq_false_iff_eq.mpr c7
   clear c7
   (first | rw [c7b0] | (simp only [i64_w, i32_w]; rw [c7b0]) | skip)
   have H' := am H
   clear H
   go_wp2
   go_meet
   case rel => exact ⟨_, ((t358 == 1)), (by first | rfl | (simp; done) | (simp [*]; done)), H', ⟨by first | omega | exact Nat.le_refl _⟩, ⟨by (with_reducible repeat (first | refine blk_drewN ?_ _ | refine blk_drew ?_ | refine blk_alloc ?_ _)); exact BK357.out⟩, ⟨by repeat (first | (with_reducible first | exact HB.out | apply below_alloc | apply pw_below_drewN | apply below_drew1 | refine below_set ?_ GE357.out) | exact HB.out)⟩⟩
  ·rw [if_neg c7] at H
   have c7b0 : (t358 == 1) = false := beq_eq_false_iff_ne.mpr c7
   have c7b1 : (t358 != 1) = true := bne_iff_ne.mpr c7
   (first | rw [c7b0] | (simp only [i64_w, i32_w]; rw [c7b0]) | skip)
   by_cases c8 : t358 = 2
   ·rw [if_pos c8] at H
    have c8b0 : (t358 == 2) = true := beq_iff_eq.mpr c8
    have c8b1 : (t358 != 2) = false := bne_eq_false_iff_eq.mpr c8
    clear c8
    have H' := am H
    clear H
    go_wp2
    go_meet
    case rel => exact ⟨_, ((t358 == 2)), (by first | rfl | (simp; done) | (simp [*]; done)), H', ⟨by first | omega | exact Nat.le_refl _⟩, ⟨by (with_reducible repeat (first | refine blk_drewN ?_ _ | refine blk_drew ?_ | refine blk_alloc ?_ _)); exact BK357.out⟩, ⟨by repeat (first | (with_reducible first | exact HB.out | apply below_alloc | apply pw_below_drewN | apply below_drew1 | refine below_set ?_ GE357.out) | exact HB.out)⟩⟩
   ·rw [if_neg c8] at H
    have c8b0 : (t358 == 2) = false := beq_eq_false_iff_ne.mpr c8
    have c8b1 : (t358 != 2) = true := bne_iff_ne.mpr c8
    have H' := am H
    clear H
    go_wp2
    go_meet
    case rel => exact ⟨_, ((t358 == 9)), (by first | rfl | (simp; done) | (simp [*]; done)), H', ⟨by first | omega | exact Nat.le_refl _⟩, ⟨by (with_reducible repeat (first | refine blk_drewN ?_ _ | refine blk_drew ?_ | refine blk_alloc ?_ _)); exact BK357.out⟩, ⟨by repeat (first | (with_reducible first | exact HB.out | apply below_alloc | apply pw_below_drewN | apply below_drew1 | refine below_set ?_ GE357.out) | exact HB.out)⟩⟩
 case rest =>
  clear HC3
  try clear c2
  try clear p2
  try clear c7
  try clear c7b0
  try clear c7b1
  try clear c8
  try clear c8b0
  try clear c8b1
  try clear hcz5_0
  try clear hcz5_1
  try clear hcz5_2
  try clear hcz5_3
  try clear hcz5_4
  try clear hfz5_0
  try clear hfz5_1
  try clear hfz5_2
  try clear hfz5_3
  try clear hfz5_4
  obtain ⟨kq, x6_2, rfl, HA, HJ2, BK357, HB⟩ := hcut
  cases kq with
  | zero => exact absurd HA.out (by simp [wardenref07_Writes.j0])
  | succ kj2 =>
   have H := HA.out
   clear HA
   simp only [wardenref07_Writes.j0] at H
   by_cases c9 : x6_2 = true
   ·subst c9
    have H1 : (some (a0_1, true)) = some (r1, r2) := by rw [if_pos rfl] at H; exact H
    clear H
    have H := H1
    clear H1
    simp only [Option.some.injEq, Prod.mk.injEq] at H
    obtain ⟨rfl, rfl⟩ := H
    have hcz10_0 : wc.cell? ⟨gb357, 0, none⟩ = some (.int .u8 a0_0) := (blk_cell BK357.out 0).trans rfl
    have hcz10_1 : wc.cell? ⟨gb357, 1, none⟩ = some (.int .u8 a0_1) := (blk_cell BK357.out 1).trans rfl
    have hcz10_2 : wc.cell? ⟨gb357, 2, none⟩ = some (.int .u8 a0_2) := (blk_cell BK357.out 2).trans rfl
    have hcz10_3 : wc.cell? ⟨gb357, 3, none⟩ = some (.int .i16 a0_3) := (blk_cell BK357.out 3).trans rfl
    have hcz10_4 : wc.cell? ⟨gb357, 4, none⟩ = some (.int .i32 a0_4) := (blk_cell BK357.out 4).trans rfl
    have hfz10_0 := blk_frozen BK357.out 0
    have hfz10_1 := blk_frozen BK357.out 1
    have hfz10_2 := blk_frozen BK357.out 2
    have hfz10_3 := blk_frozen BK357.out 3
    have hfz10_4 := blk_frozen BK357.out 4
    go_wp2
    go_ret2
    exact ⟨by first | rfl | (simp [errW_none, errW_some] <;> rfl) | (simp [*, errW_none, errW_some] <;> rfl), by repeat (first | (with_reducible first | exact HB.out | apply below_alloc | apply pw_below_drewN | apply below_drew1 | refine below_set ?_ GE357.out) | exact HB.out)⟩
   ·replace c9 := Bool.eq_false_iff.mpr c9
    subst c9
    have H1 : (if t358 = 6 then (some (0, true)) else (if t358 = 7 then (some (0, true)) else (some (0, false)))) = some (r1, r2) := by rw [if_neg (show ¬ (false = true) by decide)] at H; exact H
    clear H
    have H := H1
    clear H1
    by_cases c11 : t358 = 6
    ·rw [if_pos c11] at H
     have c11b0 : (t358 == 6) = true := beq_iff_eq.mpr c11
     have c11b1 : (t358 != 6) = false := bne_eq_false_iff_eq.mpr c11
     clear c11
     simp only [Option.some.injEq, Prod.mk.injEq] at H
     obtain ⟨rfl, rfl⟩ := H
     go_wp2
     go_ret2
     exact ⟨by first | rfl | (simp [errW_none, errW_some] <;> rfl) | (simp [*, errW_none, errW_some] <;> rfl), by repeat (first | (with_reducible first | exact HB.out | apply below_alloc | apply pw_below_drewN | apply below_drew1 | refine below_set ?_ GE357.out) | exact HB.out)⟩
    ·rw [if_neg c11] at H
     have c11b0 : (t358 == 6) = false := beq_eq_false_iff_ne.mpr c11
     have c11b1 : (t358 != 6) = true := bne_iff_ne.mpr c11
     by_cases c12 : t358 = 7
     ·rw [if_pos c12] at H
      have c12b0 : (t358 == 7) = true := beq_iff_eq.mpr c12
      have c12b1 : (t358 != 7) = false := bne_eq_false_iff_eq.mpr c12
      clear c12
      simp only [Option.some.injEq, Prod.mk.injEq] at H
      obtain ⟨rfl, rfl⟩ := H
      go_wp2
      go_ret2
      exact ⟨by first | rfl | (simp [errW_none, errW_some] <;> rfl) | (simp [*, errW_none, errW_some] <;> rfl), by repeat (first | (with_reducible first | exact HB.out | apply below_alloc | apply pw_below_drewN | apply below_drew1 | refine below_set ?_ GE357.out) | exact HB.out)⟩
     ·rw [if_neg c12] at H
      have c12b0 : (t358 == 7) = false := beq_eq_false_iff_ne.mpr c12
      have c12b1 : (t358 != 7) = true := bne_iff_ne.mpr c12
      simp only [Option.some.injEq, Prod.mk.injEq] at H
      obtain ⟨rfl, rfl⟩ := H
      go_wp2
      go_ret2
      exact ⟨by first | rfl | (simp [errW_none, errW_some] <;> rfl) | (simp [*, errW_none, errW_some] <;> rfl), by repeat (first | (with_reducible first | exact HB.out | apply below_alloc | apply pw_below_drewN | apply below_drew1 | refine below_set ?_ GE357.out) | exact HB.out)⟩

/-! ### wardenlaw07_regs: function 29 -/
def wardenlaw07_regs.l0 : Nat → List Int → List Int → Int → Option (Bool)
 | 0, _, _, _ => none
 | k + 1, x0, x1, x5 => if x5 < (x0.length : Int) then (if 0 ≤ x5 then (if x5 < (x1.length : Int) then (if (rd x0 x5) = (rd x1 x5) then (wardenlaw07_regs.l0 k x0 x1 (wrap64 (x5 + 1))) else (some false)) else (none)) else (none)) else (some true)
def wardenlaw07_regs.f (k : Nat) (l0 : List Int) (l1 : List Int) : Option (Bool) := if (l0.length : Int) = (l1.length : Int) then (wardenlaw07_regs.l0 k l0 l1 0) else (some false)
theorem wardenlaw07_regs.mono_l : ∀ k, (∀ y0 y1 y2, LeO (wardenlaw07_regs.l0 k y0 y1 y2) (wardenlaw07_regs.l0 (k + 1) y0 y1 y2))
 | 0 => fun _ _ _ r h => by simp [wardenlaw07_regs.l0] at h
 | k + 1 => by
  have ih0 := wardenlaw07_regs.mono_l k
  ·intro y0 y1 y2
   unfold wardenlaw07_regs.l0
   repeat' first
   | (with_reducible exact ih0 _ _ _)
   | (with_reducible exact LeO.refl _)
   | (with_reducible exact LeO.none _)
   | (with_reducible refine LeO.ite ?_ ?_)
   | (with_reducible refine LeO.bind ?_ (fun _ => ?_))
   | exact ih0 _ _ _
   | exact LeO.none _
   | refine LeO.ite ?_ ?_
   | refine LeO.bind ?_ (fun _ => ?_)
theorem wardenlaw07_regs.mono : ∀ a0 a1 k, LeO (wardenlaw07_regs.f k a0 a1) (wardenlaw07_regs.f (k + 1) a0 a1) := by
 intro a0 a1 k
 have ih0 := wardenlaw07_regs.mono_l k
 unfold wardenlaw07_regs.f
 repeat' first
   | (with_reducible exact ih0 _ _ _)
   | (with_reducible exact LeO.refl _)
   | (with_reducible exact LeO.none _)
   | (with_reducible refine LeO.ite ?_ ?_)
   | (with_reducible refine LeO.bind ?_ (fun _ => ?_))
   | exact ih0 _ _ _
   | exact LeO.none _
   | refine LeO.ite ?_ ?_
   | refine LeO.bind ?_ (fun _ => ?_)
set_option maxHeartbeats 8000000 in
set_option maxRecDepth 100000 in
theorem wardenlaw07_regs.calls (k : Nat) (A0 : Option Addr) (c0 : Nat) (l0 : List Int) (A1 : Option Addr) (c1 : Nat) (l1 : List Int) (r : Bool) (w : World) (hr0 : Kd.C (Kd.int .u8) w A0 l0.length l0) (hc0 : l0.length ≤ c0) (hr1 : Kd.C (Kd.int .u8) w A1 l1.length l1) (hc1 : l1.length ≤ c1) (h : wardenlaw07_regs.f k l0 l1 = some r) :
  Calls Try.prog 29 #[.slice A0 l0.length c0, .slice A1 l1.length c1] w fun e w' => e = .returned (.bool r) ∧ Drawn0 w w' := by
 have HR0 := am hr0
 have HC0 := am hc0
 clear hr0 hc0
 have HR1 := am hr1
 have HC1 := am hc1
 clear hr1 hc1
 have H : (if (l0.length : Int) = (l1.length : Int) then (wardenlaw07_regs.l0 k l0 l1 0) else (some false)) = some r := h
 clear h
 by_cases c3 : (l0.length : Int) = (l1.length : Int)
 ·rw [if_pos c3] at H
  have c3b0 : ((l0.length : Int) == (l1.length : Int)) = true := beq_iff_eq.mpr c3
  have c3b1 : ((l0.length : Int) != (l1.length : Int)) = false := bne_eq_false_iff_eq.mpr c3
  have c3b2 : (l0.length == l1.length) = true := by first | simpa using c3 | (simp at c3 ⊢; omega)
  clear c3
  have H' := am H
  clear H
  go_enter Try.func29, Try.ntmps29
  go_wp2
  repeat (go_quiet (fail); try go_wp2)
  go_loopg [5] k (fun kq v5 w' => ∃ (x5_1 : Int), v5 = .int .i64 x5_1 ∧ Aside0 (wardenlaw07_regs.l0 kq l0 l1 x5_1 = some r) ∧ Aside0 (kq ≤ k) ∧ Drawn0 w w')
  case atStart => exact ⟨(0), (by first | rfl | (simp; done) | (simp [*]; done)), H', ⟨Nat.le_refl _⟩, by repeat (first | exact Drawn0.refl _ | apply Drawn0.step)⟩
  case round =>
   clear H'
   try clear c1
   try clear c2
   try clear p2
   try clear c3
   try clear c3b0
   try clear c3b1
   try clear c3b2
   obtain ⟨x5_1, rfl, HA, HK1, ⟨m1, rfl⟩⟩ := hrel
   cases gk with
   | zero => exact absurd HA.out (by simp [wardenlaw07_regs.l0])
   | succ k1 =>
    have H := HA.out
    clear HA
    simp only [wardenlaw07_regs.l0] at H
    by_cases c4 : x5_1 < (l0.length : Int)
    ·rw [if_pos c4] at H
     have c4b0 : decide (x5_1 < (l0.length : Int)) = true := decide_eq_true c4
     clear c4
     by_cases c5 : 0 ≤ x5_1
     ·rw [if_pos c5] at H
      have c5b0 : decide (0 ≤ x5_1) = true := decide_eq_true c5
      clear c5
      by_cases c6 : x5_1 < (l1.length : Int)
      ·rw [if_pos c6] at H
       have c6b0 : decide (x5_1 < (l1.length : Int)) = true := decide_eq_true c6
       clear c6
       by_cases c7 : (rd l0 x5_1) = (rd l1 x5_1)
       ·rw [if_pos c7] at H
        have c7b0 : ((rd l0 x5_1) == (rd l1 x5_1)) = true := beq_iff_eq.mpr c7
        have c7b1 : ((rd l0 x5_1) != (rd l1 x5_1)) = false := bne_eq_false_iff_eq.mpr c7
        clear c7
        have H' := am H
        clear H
        have p359 : 0 ≤ (x5_1 : Int) := of_decide_eq_true (by first | (with_reducible assumption) | assumption)
        have q359 : x5_1 < (l0.length : Int) := of_decide_eq_true (by first | (with_reducible assumption) | assumption)
        obtain ⟨ad359, e359, hx359_0⟩ := Kd.at_int HR0.out x5_1 p359 q359
        cases e359
        replace p359 := eq_true p359
        replace q359 := eq_true q359
        have p360 : 0 ≤ (x5_1 : Int) := of_decide_eq_true (by first | (with_reducible assumption) | assumption)
        have q360 : x5_1 < (l1.length : Int) := of_decide_eq_true (by first | (with_reducible assumption) | assumption)
        obtain ⟨ad360, e360, hx360_0⟩ := Kd.at_int HR1.out x5_1 p360 q360
        cases e360
        replace p360 := eq_true p360
        replace q360 := eq_true q360
        go_wp2
        repeat (go_quiet (fail); try go_wp2)
        go_roundg k1
        case measure => have := HK1.out; omega
        case rel => exact ⟨(wrap64 (x5_1 + 1)), (by first | rfl | (simp; done) | (simp [*]; done)), H', ⟨by have := HK1.out; omega⟩, by repeat (first | exact Drawn0.refl _ | apply Drawn0.step)⟩
       ·rw [if_neg c7] at H
        have c7b0 : ((rd l0 x5_1) == (rd l1 x5_1)) = false := beq_eq_false_iff_ne.mpr c7
        have c7b1 : ((rd l0 x5_1) != (rd l1 x5_1)) = true := bne_iff_ne.mpr c7
        obtain rfl := Option.some.inj H
        have p359 : 0 ≤ (x5_1 : Int) := of_decide_eq_true (by first | (with_reducible assumption) | assumption)
        have q359 : x5_1 < (l0.length : Int) := of_decide_eq_true (by first | (with_reducible assumption) | assumption)
        obtain ⟨ad359, e359, hx359_0⟩ := Kd.at_int HR0.out x5_1 p359 q359
        cases e359
        replace p359 := eq_true p359
        replace q359 := eq_true q359
        have p360 : 0 ≤ (x5_1 : Int) := of_decide_eq_true (by first | (with_reducible assumption) | assumption)
        have q360 : x5_1 < (l1.length : Int) := of_decide_eq_true (by first | (with_reducible assumption) | assumption)
        obtain ⟨ad360, e360, hx360_0⟩ := Kd.at_int HR1.out x5_1 p360 q360
        cases e360
        replace p360 := eq_true p360
        replace q360 := eq_true q360
        go_wp2
        repeat (go_quiet (fail); try go_wp2)
        go_ret
        exact ⟨by first | rfl | (simp; done) | (simp [*]; done), by repeat (first | exact Drawn0.refl _ | apply Drawn0.step)⟩
      ·rw [if_neg c6] at H
       exact absurd H (by simp)
     ·rw [if_neg c5] at H
      exact absurd H (by simp)
    ·rw [if_neg c4] at H
     have c4b0 : decide (x5_1 < (l0.length : Int)) = false := decide_eq_false c4
     clear c4
     obtain rfl := Option.some.inj H
     go_wp2
     repeat (go_quiet (fail); try go_wp2)
     go_ret
     exact ⟨by first | rfl | (simp; done) | (simp [*]; done), by repeat (first | exact Drawn0.refl _ | apply Drawn0.step)⟩
 ·rw [if_neg c3] at H
  have c3b0 : ((l0.length : Int) == (l1.length : Int)) = false := beq_eq_false_iff_ne.mpr c3
  have c3b1 : ((l0.length : Int) != (l1.length : Int)) = true := bne_iff_ne.mpr c3
  have c3b2 : (l0.length == l1.length) = false := by first | simpa using c3 | (simp at c3 ⊢; omega)
  obtain rfl := Option.some.inj H
  go_enter Try.func29, Try.ntmps29
  go_wp2
  repeat (go_quiet (fail); try go_wp2)
  go_ret
  exact ⟨by first | rfl | (simp; done) | (simp [*]; done), by repeat (first | exact Drawn0.refl _ | apply Drawn0.step)⟩

/-! ### wardenref07_Reads: function 31 -/
def wardenref07_Reads.j0 : Nat → Bool → Bool → Int → Int → Int → Int → Int → Option (List Int)
 | 0, _, _, _, _, _, _, _ => none
 | k + 1, x3, x15, x362000, x362001, x362002, x362003, x362004 => if x15 = true then (some (([x362002] : List Int))) else (if x3 = true then (some ([] : List Int)) else ((wardenref07_x.f x362000 x362001 x362002 x362003 x362004).bind fun t368 => (if t368 = true then ((wardenref07_two.f x362001 x362002).bind fun t369 => (some t369)) else (some (([x362001] : List Int))))))
def wardenref07_Reads.f (k : Nat) (a0_0 : Int) (a0_1 : Int) (a0_2 : Int) (a0_3 : Int) (a0_4 : Int) : Option (List Int) := (wardenref07_Kind.f k a0_0 a0_1 a0_2 a0_3 a0_4).bind fun t362 => (if t362 = 1 then ((wardenref07_Code.f a0_0 a0_1 a0_2 a0_3 a0_4).bind fun t363 => (if t363 = 11 then ((wardenref07_x.f a0_0 a0_1 a0_2 a0_3 a0_4).bind fun t364 => (wardenref07_Reads.j0 k (t363 == 11) t364 a0_0 a0_1 a0_2 a0_3 a0_4)) else (wardenref07_Reads.j0 k (t363 == 11) false a0_0 a0_1 a0_2 a0_3 a0_4))) else (if t362 = 2 then (some (([a0_2] : List Int))) else (if t362 = 3 then (some (([a0_1] : List Int))) else (if t362 = 4 then ((wardenref07_two.f a0_1 a0_2).bind fun t381 => (some t381)) else (if t362 = 5 then ((wardenref07_x.f a0_0 a0_1 a0_2 a0_3 a0_4).bind fun t384 => (if t384 = true then ((wardenref07_two.f a0_1 a0_2).bind fun t385 => (some t385)) else (some (([a0_1] : List Int))))) else (if t362 = 8 then (some (([0] : List Int))) else (some ([] : List Int))))))))
theorem wardenref07_Reads.mono_l : ∀ k, (∀ y0 y1 y2 y3 y4 y5 y6, LeO (wardenref07_Reads.j0 k y0 y1 y2 y3 y4 y5 y6) (wardenref07_Reads.j0 (k + 1) y0 y1 y2 y3 y4 y5 y6))
 | 0 => fun _ _ _ _ _ _ _ r h => by simp [wardenref07_Reads.j0] at h
 | k + 1 => by
  have ih0 := wardenref07_Reads.mono_l k
  ·intro y0 y1 y2 y3 y4 y5 y6
   unfold wardenref07_Reads.j0
   repeat' first
   | (with_reducible exact ih0 _ _ _ _ _ _ _)
   | (with_reducible exact wardenref07_Kind.mono _ _ _ _ _ _)
   | (with_reducible exact LeO.refl _)
   | (with_reducible exact LeO.none _)
   | (with_reducible refine LeO.ite ?_ ?_)
   | (with_reducible refine LeO.bind ?_ (fun _ => ?_))
   | exact ih0 _ _ _ _ _ _ _
   | exact wardenref07_Kind.mono _ _ _ _ _ _
   | exact LeO.none _
   | refine LeO.ite ?_ ?_
   | refine LeO.bind ?_ (fun _ => ?_)
theorem wardenref07_Reads.mono : ∀ a0 a1 a2 a3 a4 k, LeO (wardenref07_Reads.f k a0 a1 a2 a3 a4) (wardenref07_Reads.f (k + 1) a0 a1 a2 a3 a4) := by
 intro a0 a1 a2 a3 a4 k
 have ih0 := wardenref07_Reads.mono_l k
 unfold wardenref07_Reads.f
 repeat' first
   | (with_reducible exact ih0 _ _ _ _ _ _ _)
   | (with_reducible exact wardenref07_Kind.mono _ _ _ _ _ _)
   | (with_reducible exact LeO.refl _)
   | (with_reducible exact LeO.none _)
   | (with_reducible refine LeO.ite ?_ ?_)
   | (with_reducible refine LeO.bind ?_ (fun _ => ?_))
   | exact ih0 _ _ _ _ _ _ _
   | exact wardenref07_Kind.mono _ _ _ _ _ _
   | exact LeO.none _
   | refine LeO.ite ?_ ?_
   | refine LeO.bind ?_ (fun _ => ?_)
set_option maxHeartbeats 8000000 in
set_option maxRecDepth 100000 in
theorem wardenref07_Reads.calls (k : Nat) (a0_0 : Int) (a0_1 : Int) (a0_2 : Int) (a0_3 : Int) (a0_4 : Int) (r : List Int) (w : World) (h : wardenref07_Reads.f k a0_0 a0_1 a0_2 a0_3 a0_4 = some r) :
  Calls Try.prog 31 #[.agg #[.int .u8 a0_0, .int .u8 a0_1, .int .u8 a0_2, .int .i16 a0_3, .int .i32 a0_4]] w fun e w' => ∃ v0_ : Value, e = .returned (v0_) ∧ Kd.R (Kd.int .u8) 5 w' w.heap.size (fun _ => True) v0_ r ∧ Below w.heap.size w w' := by
 have hu24 := Try.underlying24
 have HB := am (Below.refl w.heap.size w)
 have H : ((wardenref07_Kind.f k a0_0 a0_1 a0_2 a0_3 a0_4).bind fun t362 => (if t362 = 1 then ((wardenref07_Code.f a0_0 a0_1 a0_2 a0_3 a0_4).bind fun t363 => (if t363 = 11 then ((wardenref07_x.f a0_0 a0_1 a0_2 a0_3 a0_4).bind fun t364 => (wardenref07_Reads.j0 k (t363 == 11) t364 a0_0 a0_1 a0_2 a0_3 a0_4)) else (wardenref07_Reads.j0 k (t363 == 11) false a0_0 a0_1 a0_2 a0_3 a0_4))) else (if t362 = 2 then (some (([a0_2] : List Int))) else (if t362 = 3 then (some (([a0_1] : List Int))) else (if t362 = 4 then ((wardenref07_two.f a0_1 a0_2).bind fun t381 => (some t381)) else (if t362 = 5 then ((wardenref07_x.f a0_0 a0_1 a0_2 a0_3 a0_4).bind fun t384 => (if t384 = true then ((wardenref07_two.f a0_1 a0_2).bind fun t385 => (some t385)) else (some (([a0_1] : List Int))))) else (if t362 = 8 then (some (([0] : List Int))) else (some ([] : List Int))))))))) = some r := h
 clear h
 replace H := Option.bind_eq_some_iff.mp H
 obtain ⟨t362, A20, H⟩ := H
 try dsimp only at H
 have A2 := am A20
 clear A20
 by_cases c3 : t362 = 1
 ·rw [if_pos c3] at H
  have c3b0 : (t362 == 1) = true := beq_iff_eq.mpr c3
  have c3b1 : (t362 != 1) = false := bne_eq_false_iff_eq.mpr c3
  clear c3
  replace H := Option.bind_eq_some_iff.mp H
  obtain ⟨t363, A40, H⟩ := H
  try dsimp only at H
  have A4 := am A40
  clear A40
  have HC5 := am H
  clear H
  go_enter Try.func31, Try.ntmps31
  go_upto_region 4 with (first | ((with_reducible refine gate_dst (N := 1) rfl ?_); refine box_event ?hg (N := 1) ?hd (cs := #[.int .u8 a0_0, .int .u8 a0_1, .int .u8 a0_2, .int .i16 a0_3, .int .i32 a0_4]) (t := 24) ?hr ?_; (case hd => rfl); (case hg => rfl); (case hr => first | (go_simp; done) | (go_simp; rfl)); intro gb361 hg w6 hbox hb; have n0_ := am (below_step (by repeat (first | exact HB.out | apply pb | apply pa | apply pd)) hb); have n1_ := am (hbox); have n2_ := am ((by rw [hg]; exact (below_size (by repeat (first | exact HB.out | apply pb | apply pa | apply pd))) : w.heap.size ≤ gb361)); have n3_ := am ((by rw [hg]; exact (below_size (by repeat (first | exact HB.out | apply pb | apply pa | apply pd))) : w.heap.size ≤ gb361)); clear HB; have HB := n0_; have BK361 := n1_; have GW361 := n2_; have GE361 := n3_; clear n0_ n1_ n2_ n3_; clear hb hbox hg; have hcz7_0 : w6.cell? ⟨gb361, 0, none⟩ = some (.int .u8 a0_0) := (blk_cell BK361.out 0).trans rfl; have hcz7_1 : w6.cell? ⟨gb361, 1, none⟩ = some (.int .u8 a0_1) := (blk_cell BK361.out 1).trans rfl; have hcz7_2 : w6.cell? ⟨gb361, 2, none⟩ = some (.int .u8 a0_2) := (blk_cell BK361.out 2).trans rfl; have hcz7_3 : w6.cell? ⟨gb361, 3, none⟩ = some (.int .i16 a0_3) := (blk_cell BK361.out 3).trans rfl; have hcz7_4 : w6.cell? ⟨gb361, 4, none⟩ = some (.int .i32 a0_4) := (blk_cell BK361.out 4).trans rfl; have hfz7_0 := blk_frozen BK361.out 0; have hfz7_1 := blk_frozen BK361.out 1; have hfz7_2 := blk_frozen BK361.out 2; have hfz7_3 := blk_frozen BK361.out 3; have hfz7_4 := blk_frozen BK361.out 4) | ((with_reducible refine gate_callee (f := 20) rfl ?_); refine goesL_ (some 5) rfl rfl Try.func20 (by kernel_rfl) rfl #[.agg #[.int .u8 a0_0, .int .u8 a0_1, .int .u8 a0_2, .int .i16 a0_3, .int .i32 a0_4]] rfl (by (try simp only [List.map_toArray, List.map_cons, List.map_nil]); first | done | rfl) ?_; (with_reducible refine (wardenref07_Kind.calls k a0_0 a0_1 a0_2 a0_3 a0_4 t362 _ A2.out).mono ?_); rintro e w8 ⟨rfl, hb⟩; refine ⟨_, rfl, ?_⟩; have n0_ := am (blk_below (g := gb361) (o := .cells #[.int .u8 a0_0, .int .u8 a0_1, .int .u8 a0_2, .int .i16 a0_3, .int .i32 a0_4] 24 (0, 0)) (by first | exact BK361.out | exact blk_drewN BK361.out _) hb); have n1_ := am (below_step (by repeat (first | exact HB.out | apply pb | apply pa | apply pd | refine below_set ?_ GE361.out)) hb); clear BK361; clear HB; have BK361 := n0_; have HB := n1_; clear n0_ n1_; (try clear hb); (try clear hb2); (try clear hk); (try clear hi); have hcz9_0 : w8.cell? ⟨gb361, 0, none⟩ = some (.int .u8 a0_0) := (blk_cell BK361.out 0).trans rfl; have hcz9_1 : w8.cell? ⟨gb361, 1, none⟩ = some (.int .u8 a0_1) := (blk_cell BK361.out 1).trans rfl; have hcz9_2 : w8.cell? ⟨gb361, 2, none⟩ = some (.int .u8 a0_2) := (blk_cell BK361.out 2).trans rfl; have hcz9_3 : w8.cell? ⟨gb361, 3, none⟩ = some (.int .i16 a0_3) := (blk_cell BK361.out 3).trans rfl; have hcz9_4 : w8.cell? ⟨gb361, 4, none⟩ = some (.int .i32 a0_4) := (blk_cell BK361.out 4).trans rfl; have hfz9_0 := blk_frozen BK361.out 0; have hfz9_1 := blk_frozen BK361.out 1; have hfz9_2 := blk_frozen BK361.out 2; have hfz9_3 := blk_frozen BK361.out 3; have hfz9_4 := blk_frozen BK361.out 4) | ((with_reducible refine gate_callee (f := 22) rfl ?_); refine goesL_ (some 9) rfl rfl Try.func22 (by kernel_rfl) rfl #[.agg #[.int .u8 a0_0, .int .u8 a0_1, .int .u8 a0_2, .int .i16 a0_3, .int .i32 a0_4]] rfl (by (try simp only [List.map_toArray, List.map_cons, List.map_nil]); first | done | rfl) ?_; (with_reducible refine (wardenref07_Code.calls a0_0 a0_1 a0_2 a0_3 a0_4 t363 _ A4.out).mono ?_); rintro e w10 ⟨rfl, hb⟩; refine ⟨_, rfl, ?_⟩; have n0_ := am (blk_below (g := gb361) (o := .cells #[.int .u8 a0_0, .int .u8 a0_1, .int .u8 a0_2, .int .i16 a0_3, .int .i32 a0_4] 24 (0, 0)) (by first | exact BK361.out | exact blk_drewN BK361.out _) hb); have n1_ := am (below_step (by repeat (first | exact HB.out | apply pb | apply pa | apply pd | refine below_set ?_ GE361.out)) hb); clear BK361; clear HB; have BK361 := n0_; have HB := n1_; clear n0_ n1_; (try clear hb); (try clear hb2); (try clear hk); (try clear hi)))
  (try simp only [Act.put, List.setIfInBounds_toArray, List.set_cons_zero, List.set_cons_succ])
  go_cut [3, 15] (fun v3 v15 wc => ∃ (kq : Nat) (x15_4 : Bool), v3 = .bool (t363 == 11) ∧ v15 = .bool x15_4 ∧ Aside0 (wardenref07_Reads.j0 kq (t363 == 11) x15_4 a0_0 a0_1 a0_2 a0_3 a0_4 = some r) ∧ Aside0 (kq ≤ k) ∧ Aside0 (wc.heap[gb361]? = some (.cells #[.int .u8 a0_0, .int .u8 a0_1, .int .u8 a0_2, .int .i16 a0_3, .int .i32 a0_4] 24 (0, 0))) ∧ Aside0 (Below w.heap.size w wc))
  case first =>
   have H := HC5.out
   clear HC5
   by_cases c11 : t363 = 11
   ·rw [if_pos c11] at H
    have c11b0 : (t363 == 11) = true := beq_iff_eq.mpr c11
    have c11b1 : (t363 != 11) = false := bne_eq_false_iff_eq.mpr c11
    clear c11
    (first | rw [c11b0] | (simp only [i64_w, i32_w]; rw [c11b0]) | skip)
    replace H := Option.bind_eq_some_iff.mp H
    obtain ⟨t364, A120, H⟩ := H
    try dsimp only at H
    have A12 := am A120
    clear A120
    have H' := am H
    clear H
    have hcz13_0 : w10.cell? ⟨gb361, 0, none⟩ = some (.int .u8 a0_0) := (blk_cell BK361.out 0).trans rfl
    have hcz13_1 : w10.cell? ⟨gb361, 1, none⟩ = some (.int .u8 a0_1) := (blk_cell BK361.out 1).trans rfl
    have hcz13_2 : w10.cell? ⟨gb361, 2, none⟩ = some (.int .u8 a0_2) := (blk_cell BK361.out 2).trans rfl
    have hcz13_3 : w10.cell? ⟨gb361, 3, none⟩ = some (.int .i16 a0_3) := (blk_cell BK361.out 3).trans rfl
    have hcz13_4 : w10.cell? ⟨gb361, 4, none⟩ = some (.int .i32 a0_4) := (blk_cell BK361.out 4).trans rfl
    have hfz13_0 := blk_frozen BK361.out 0
    have hfz13_1 := blk_frozen BK361.out 1
    have hfz13_2 := blk_frozen BK361.out 2
    have hfz13_3 := blk_frozen BK361.out 3
    have hfz13_4 := blk_frozen BK361.out 4
    go_wp2_with (first | (go_at_call 55; (with_reducible refine (wardenref07_x.calls a0_0 a0_1 a0_2 a0_3 a0_4 t364 _ A12.out).mono ?_); rintro e w14 ⟨rfl, hb⟩; have n0_ := am (blk_below (g := gb361) (o := .cells #[.int .u8 a0_0, .int .u8 a0_1, .int .u8 a0_2, .int .i16 a0_3, .int .i32 a0_4] 24 (0, 0)) (by first | exact BK361.out | exact blk_drewN BK361.out _) hb); have n1_ := am (below_step (by repeat (first | exact HB.out | apply pb | apply pa | apply pd | refine below_set ?_ GE361.out)) hb); clear BK361; clear HB; have BK361 := n0_; have HB := n1_; clear n0_ n1_; (try clear hb); (try clear hb2); (try clear hk); (try clear hi)))
    go_meet
    case rel => exact ⟨_, (t364), (by first | rfl | (congr 1; symm; assumption) | (simp [*]; done)), (by first | rfl | (simp; done) | (simp [*]; done)), H', ⟨by first | omega | exact Nat.le_refl _⟩, ⟨by (with_reducible repeat (first | refine blk_drewN ?_ _ | refine blk_drew ?_ | refine blk_alloc ?_ _)); exact BK361.out⟩, ⟨by repeat (first | (with_reducible first | exact HB.out | apply below_alloc | apply pw_below_drewN | apply below_drew1 | refine below_set ?_ GE361.out) | exact HB.out)⟩⟩
   ·rw [if_neg c11] at H
    have c11b0 : (t363 == 11) = false := beq_eq_false_iff_ne.mpr c11
    have c11b1 : (t363 != 11) = true := bne_iff_ne.mpr c11
    (first | rw [c11b0] | (simp only [i64_w, i32_w]; rw [c11b0]) | skip)
    have H' := am H
    clear H
    go_wp2
    go_meet
    case rel => exact ⟨_, (false), (by first | rfl | (congr 1; symm; assumption) | (simp [*]; done)), (by first | rfl | (simp; done) | (simp [*]; done)), H', ⟨by first | omega | exact Nat.le_refl _⟩, ⟨by (with_reducible repeat (first | refine blk_drewN ?_ _ | refine blk_drew ?_ | refine blk_alloc ?_ _)); exact BK361.out⟩, ⟨by repeat (first | (with_reducible first | exact HB.out | apply below_alloc | apply pw_below_drewN | apply below_drew1 | refine below_set ?_ GE361.out) | exact HB.out)⟩⟩
  case rest =>
   clear HC5
   try clear c1
   try clear c2
   try clear p2
   try clear c3
   try clear c3b0
   try clear c3b1
   try clear c11
   try clear c11b0
   try clear c11b1
   try clear hcz13_0
   try clear hcz13_1
   try clear hcz13_2
   try clear hcz13_3
   try clear hcz13_4
   try clear hcz7_0
   try clear hcz7_1
   try clear hcz7_2
   try clear hcz7_3
   try clear hcz7_4
   try clear hcz9_0
   try clear hcz9_1
   try clear hcz9_2
   try clear hcz9_3
   try clear hcz9_4
   try clear hfz13_0
   try clear hfz13_1
   try clear hfz13_2
   try clear hfz13_3
   try clear hfz13_4
   try clear hfz7_0
   try clear hfz7_1
   try clear hfz7_2
   try clear hfz7_3
   try clear hfz7_4
   try clear hfz9_0
   try clear hfz9_1
   try clear hfz9_2
   try clear hfz9_3
   try clear hfz9_4
   obtain ⟨kq, x15_4, rfl, rfl, HA, HJ4, BK361, HB⟩ := hcut
   cases kq with
   | zero => exact absurd HA.out (by simp [wardenref07_Reads.j0])
   | succ kj4 =>
    have H := HA.out
    clear HA
    simp only [wardenref07_Reads.j0] at H
    by_cases c15 : x15_4 = true
    ·subst c15
     have H1 : (some (([a0_2] : List Int))) = some r := by rw [if_pos rfl] at H; exact H
     clear H
     have H := H1
     clear H1
     obtain ⟨y365, hy365⟩ : ∃ y_ : List Int, y_ = (([a0_2] : List Int)) := ⟨_, rfl⟩
     replace H : (some y365) = some r := by first | (rw [hy365]; with_reducible exact H) | (have H2_ := (Option.bind_some _ _).symm.trans H; rw [hy365]; with_reducible exact H2_) | (have H2_ := (Option.bind_some _ _).symm.trans H; with_reducible exact H2_) | with_reducible exact H | (rw [hy365]; exact H) | exact H
     have Ny365 := am hy365
     clear hy365
     obtain rfl := Option.some.inj H
     have hcz16_0 : wc.cell? ⟨gb361, 0, none⟩ = some (.int .u8 a0_0) := (blk_cell BK361.out 0).trans rfl
     have hcz16_1 : wc.cell? ⟨gb361, 1, none⟩ = some (.int .u8 a0_1) := (blk_cell BK361.out 1).trans rfl
     have hcz16_2 : wc.cell? ⟨gb361, 2, none⟩ = some (.int .u8 a0_2) := (blk_cell BK361.out 2).trans rfl
     have hcz16_3 : wc.cell? ⟨gb361, 3, none⟩ = some (.int .i16 a0_3) := (blk_cell BK361.out 3).trans rfl
     have hcz16_4 : wc.cell? ⟨gb361, 4, none⟩ = some (.int .i32 a0_4) := (blk_cell BK361.out 4).trans rfl
     have hfz16_0 := blk_frozen BK361.out 0
     have hfz16_1 := blk_frozen BK361.out 1
     have hfz16_2 := blk_frozen BK361.out 2
     have hfz16_3 := blk_frozen BK361.out 3
     have hfz16_4 := blk_frozen BK361.out 4
     go_wp2_with (first | ((with_reducible refine gate_dst (N := 18) rfl ?_); refine Kd.R_lit (Kd.int .u8) _ 5 ?hg (N := 18) ?hd (xs := ([a0_2] : List Int)) (inner := [.int .u8 a0_2]) (ok := fun _ => True) (okp := fun _ => True) ?hr ?hp (fun _ hk => hk) trivial (Below.refl _ _) (Nat.le_refl _) (by simp) ?_; (case hd => rfl); (case hg => rfl); (case hr => first | (go_simp; done) | (go_simp; rfl)); (case hp => exact (Reps.one (show Kd.M (Kd.int .u8) _ _ _ a0_2 [.int .u8 a0_2] from rfl) (Reps.none _ _))); intro v366 w17 ho18 hb hg_ hnew_; clear hg_ hnew_; (first | rw [← Ny365.out] at ho18 | (simp only [Int.reduceToNat] at ho18; rw [← Ny365.out] at ho18)); have n0_ := am (Kd.R_lower ho18 (below_size (by repeat (first | exact HB.out | apply pb | apply pa | apply pd | refine below_set ?_ GE361.out)))); have n1_ := am (blk_below (g := gb361) (o := .cells #[.int .u8 a0_0, .int .u8 a0_1, .int .u8 a0_2, .int .i16 a0_3, .int .i32 a0_4] 24 (0, 0)) (by first | exact BK361.out | exact blk_drewN BK361.out _) hb); have n2_ := am (below_step (by repeat (first | exact HB.out | apply pb | apply pa | apply pd | refine below_set ?_ GE361.out)) hb); clear BK361; clear HB; have HO367 := n0_; have BK361 := n1_; have HB := n2_; clear n0_ n1_ n2_; clear hb ho18))
     go_ret
     exact ⟨_, by first | rfl | (simp [errW_none, errW_some] <;> rfl) | (simp [*, errW_none, errW_some] <;> rfl), by (with_reducible repeat (first | apply Kd.R_alloc | apply Kd.R_drewN | apply Kd.R_drew)); exact HO367.out, by repeat (first | (with_reducible first | exact HB.out | apply below_alloc | apply pw_below_drewN | apply below_drew1 | refine below_set ?_ GE361.out) | exact HB.out)⟩
    ·replace c15 := Bool.eq_false_iff.mpr c15
     subst c15
     have H1 : (if (t363 == 11) = true then (some ([] : List Int)) else ((wardenref07_x.f a0_0 a0_1 a0_2 a0_3 a0_4).bind fun t368 => (if t368 = true then ((wardenref07_two.f a0_1 a0_2).bind fun t369 => (some t369)) else (some (([a0_1] : List Int)))))) = some r := by rw [if_neg (show ¬ (false = true) by decide)] at H; exact H
     clear H
     have H := H1
     clear H1
     by_cases c19 : (t363 == 11) = true
     ·rw [if_pos c19] at H
      have c19b0 : (t363 == 11) = true := c19
      (try (have c19b1 : decide (t363 = 11) = true := by simpa using c19))
      (try (have c19b2 : (t363 == 11) = true := by simpa using c19))
      clear c19
      obtain rfl := Option.some.inj H
      go_wp2
      go_ret
      exact ⟨_, by first | rfl | (simp [errW_none, errW_some] <;> rfl) | (simp [*, errW_none, errW_some] <;> rfl), by first | exact Kd.R_nil _ _ _ _ _ | exact Kd.N_nil _ _ _ _ _ | exact Kd.V_nil _ _ _ _ _ | exact Kd.Q_nil _ _ _ _ _ | exact Kd.S_nil _ _ _ _ _, by repeat (first | (with_reducible first | exact HB.out | apply below_alloc | apply pw_below_drewN | apply below_drew1 | refine below_set ?_ GE361.out) | exact HB.out)⟩
     ·rw [if_neg c19] at H
      have c19b0 : (t363 == 11) = false := by simpa using c19
      (try (have c19b1 : decide (t363 = 11) = false := by simpa using c19))
      (try (have c19b2 : (t363 == 11) = false := by simpa using c19))
      (try (have c19b3 : ¬ (t363 = 11) := by simpa using c19))
      clear c19
      replace H := Option.bind_eq_some_iff.mp H
      obtain ⟨t368, A200, H⟩ := H
      try dsimp only at H
      have A20 := am A200
      clear A200
      by_cases c21 : t368 = true
      ·subst c21
       have H1 : ((wardenref07_two.f a0_1 a0_2).bind fun t369 => (some t369)) = some r := by rw [if_pos rfl] at H; exact H
       clear H
       have H := H1
       clear H1
       replace H := Option.bind_eq_some_iff.mp H
       obtain ⟨t369, A220, H⟩ := H
       try dsimp only at H
       have A22 := am A220
       clear A220
       obtain rfl := Option.some.inj H
       have hcz23_0 : wc.cell? ⟨gb361, 0, none⟩ = some (.int .u8 a0_0) := (blk_cell BK361.out 0).trans rfl
       have hcz23_1 : wc.cell? ⟨gb361, 1, none⟩ = some (.int .u8 a0_1) := (blk_cell BK361.out 1).trans rfl
       have hcz23_2 : wc.cell? ⟨gb361, 2, none⟩ = some (.int .u8 a0_2) := (blk_cell BK361.out 2).trans rfl
       have hcz23_3 : wc.cell? ⟨gb361, 3, none⟩ = some (.int .i16 a0_3) := (blk_cell BK361.out 3).trans rfl
       have hcz23_4 : wc.cell? ⟨gb361, 4, none⟩ = some (.int .i32 a0_4) := (blk_cell BK361.out 4).trans rfl
       have hfz23_0 := blk_frozen BK361.out 0
       have hfz23_1 := blk_frozen BK361.out 1
       have hfz23_2 := blk_frozen BK361.out 2
       have hfz23_3 := blk_frozen BK361.out 3
       have hfz23_4 := blk_frozen BK361.out 4
       go_wp2_with (first | ((with_reducible refine gate_callee (f := 55) rfl ?_); refine goesL_ (some 21) rfl rfl Try.func55 (by kernel_rfl) rfl #[.agg #[.int .u8 a0_0, .int .u8 a0_1, .int .u8 a0_2, .int .i16 a0_3, .int .i32 a0_4]] rfl (by (try simp only [List.map_toArray, List.map_cons, List.map_nil]); first | done | rfl) ?_; (with_reducible refine (wardenref07_x.calls a0_0 a0_1 a0_2 a0_3 a0_4 true _ A20.out).mono ?_); rintro e w24 ⟨rfl, hb⟩; refine ⟨_, rfl, ?_⟩; have n0_ := am (blk_below (g := gb361) (o := .cells #[.int .u8 a0_0, .int .u8 a0_1, .int .u8 a0_2, .int .i16 a0_3, .int .i32 a0_4] 24 (0, 0)) (by first | exact BK361.out | exact blk_drewN BK361.out _) hb); have n1_ := am (below_step (by repeat (first | exact HB.out | apply pb | apply pa | apply pd | refine below_set ?_ GE361.out)) hb); clear BK361; clear HB; have BK361 := n0_; have HB := n1_; clear n0_ n1_; (try clear hb); (try clear hb2); (try clear hk); (try clear hi); have hcz25_0 : w24.cell? ⟨gb361, 0, none⟩ = some (.int .u8 a0_0) := (blk_cell BK361.out 0).trans rfl; have hcz25_1 : w24.cell? ⟨gb361, 1, none⟩ = some (.int .u8 a0_1) := (blk_cell BK361.out 1).trans rfl; have hcz25_2 : w24.cell? ⟨gb361, 2, none⟩ = some (.int .u8 a0_2) := (blk_cell BK361.out 2).trans rfl; have hcz25_3 : w24.cell? ⟨gb361, 3, none⟩ = some (.int .i16 a0_3) := (blk_cell BK361.out 3).trans rfl; have hcz25_4 : w24.cell? ⟨gb361, 4, none⟩ = some (.int .i32 a0_4) := (blk_cell BK361.out 4).trans rfl; have hfz25_0 := blk_frozen BK361.out 0; have hfz25_1 := blk_frozen BK361.out 1; have hfz25_2 := blk_frozen BK361.out 2; have hfz25_3 := blk_frozen BK361.out 3; have hfz25_4 := blk_frozen BK361.out 4) | ((with_reducible refine gate_callee (f := 60) rfl ?_); refine goesL_ (some 26) rfl rfl Try.func60 (by kernel_rfl) rfl #[.int .u8 a0_1, .int .u8 a0_2] rfl (by (try simp only [List.map_toArray, List.map_cons, List.map_nil]); first | done | rfl) ?_; (with_reducible refine (wardenref07_two.calls a0_1 a0_2 t369 _ A22.out).mono ?_); rintro e w26 ⟨v370, rfl, ho0, hb⟩; refine ⟨_, rfl, ?_⟩; have n0_ := am (Kd.R_lower ho0 (below_size (by repeat (first | exact HB.out | apply pb | apply pa | apply pd | refine below_set ?_ GE361.out)))); have n1_ := am (blk_below (g := gb361) (o := .cells #[.int .u8 a0_0, .int .u8 a0_1, .int .u8 a0_2, .int .i16 a0_3, .int .i32 a0_4] 24 (0, 0)) (by first | exact BK361.out | exact blk_drewN BK361.out _) hb); have n2_ := am (below_step (by repeat (first | exact HB.out | apply pb | apply pa | apply pd | refine below_set ?_ GE361.out)) hb); clear BK361; clear HB; have HO371 := n0_; have BK361 := n1_; have HB := n2_; clear n0_ n1_ n2_; (try clear hb); (try clear hb2); (try clear hk); (try clear hi); (try clear ho0)))
       go_ret
       exact ⟨_, by first | rfl | (simp [errW_none, errW_some] <;> rfl) | (simp [*, errW_none, errW_some] <;> rfl), by (with_reducible repeat (first | apply Kd.R_alloc | apply Kd.R_drewN | apply Kd.R_drew)); exact HO371.out, by repeat (first | (with_reducible first | exact HB.out | apply below_alloc | apply pw_below_drewN | apply below_drew1 | refine below_set ?_ GE361.out) | exact HB.out)⟩
      ·replace c21 := Bool.eq_false_iff.mpr c21
       subst c21
       have H1 : (some (([a0_1] : List Int))) = some r := by rw [if_neg (show ¬ (false = true) by decide)] at H; exact H
       clear H
       have H := H1
       clear H1
       obtain ⟨y372, hy372⟩ : ∃ y_ : List Int, y_ = (([a0_1] : List Int)) := ⟨_, rfl⟩
       replace H : (some y372) = some r := by first | (rw [hy372]; with_reducible exact H) | (have H2_ := (Option.bind_some _ _).symm.trans H; rw [hy372]; with_reducible exact H2_) | (have H2_ := (Option.bind_some _ _).symm.trans H; with_reducible exact H2_) | with_reducible exact H | (rw [hy372]; exact H) | exact H
       have Ny372 := am hy372
       clear hy372
       obtain rfl := Option.some.inj H
       have hcz27_0 : wc.cell? ⟨gb361, 0, none⟩ = some (.int .u8 a0_0) := (blk_cell BK361.out 0).trans rfl
       have hcz27_1 : wc.cell? ⟨gb361, 1, none⟩ = some (.int .u8 a0_1) := (blk_cell BK361.out 1).trans rfl
       have hcz27_2 : wc.cell? ⟨gb361, 2, none⟩ = some (.int .u8 a0_2) := (blk_cell BK361.out 2).trans rfl
       have hcz27_3 : wc.cell? ⟨gb361, 3, none⟩ = some (.int .i16 a0_3) := (blk_cell BK361.out 3).trans rfl
       have hcz27_4 : wc.cell? ⟨gb361, 4, none⟩ = some (.int .i32 a0_4) := (blk_cell BK361.out 4).trans rfl
       have hfz27_0 := blk_frozen BK361.out 0
       have hfz27_1 := blk_frozen BK361.out 1
       have hfz27_2 := blk_frozen BK361.out 2
       have hfz27_3 := blk_frozen BK361.out 3
       have hfz27_4 := blk_frozen BK361.out 4
       go_wp2_with (first | ((with_reducible refine gate_callee (f := 55) rfl ?_); refine goesL_ (some 21) rfl rfl Try.func55 (by kernel_rfl) rfl #[.agg #[.int .u8 a0_0, .int .u8 a0_1, .int .u8 a0_2, .int .i16 a0_3, .int .i32 a0_4]] rfl (by (try simp only [List.map_toArray, List.map_cons, List.map_nil]); first | done | rfl) ?_; (with_reducible refine (wardenref07_x.calls a0_0 a0_1 a0_2 a0_3 a0_4 false _ A20.out).mono ?_); rintro e w28 ⟨rfl, hb⟩; refine ⟨_, rfl, ?_⟩; have n0_ := am (blk_below (g := gb361) (o := .cells #[.int .u8 a0_0, .int .u8 a0_1, .int .u8 a0_2, .int .i16 a0_3, .int .i32 a0_4] 24 (0, 0)) (by first | exact BK361.out | exact blk_drewN BK361.out _) hb); have n1_ := am (below_step (by repeat (first | exact HB.out | apply pb | apply pa | apply pd | refine below_set ?_ GE361.out)) hb); clear BK361; clear HB; have BK361 := n0_; have HB := n1_; clear n0_ n1_; (try clear hb); (try clear hb2); (try clear hk); (try clear hi); have hcz29_0 : w28.cell? ⟨gb361, 0, none⟩ = some (.int .u8 a0_0) := (blk_cell BK361.out 0).trans rfl; have hcz29_1 : w28.cell? ⟨gb361, 1, none⟩ = some (.int .u8 a0_1) := (blk_cell BK361.out 1).trans rfl; have hcz29_2 : w28.cell? ⟨gb361, 2, none⟩ = some (.int .u8 a0_2) := (blk_cell BK361.out 2).trans rfl; have hcz29_3 : w28.cell? ⟨gb361, 3, none⟩ = some (.int .i16 a0_3) := (blk_cell BK361.out 3).trans rfl; have hcz29_4 : w28.cell? ⟨gb361, 4, none⟩ = some (.int .i32 a0_4) := (blk_cell BK361.out 4).trans rfl; have hfz29_0 := blk_frozen BK361.out 0; have hfz29_1 := blk_frozen BK361.out 1; have hfz29_2 := blk_frozen BK361.out 2; have hfz29_3 := blk_frozen BK361.out 3; have hfz29_4 := blk_frozen BK361.out 4) | ((with_reducible refine gate_dst (N := 29) rfl ?_); refine Kd.R_lit (Kd.int .u8) _ 5 ?hg (N := 29) ?hd (xs := ([a0_1] : List Int)) (inner := [.int .u8 a0_1]) (ok := fun _ => True) (okp := fun _ => True) ?hr ?hp (fun _ hk => hk) trivial (Below.refl _ _) (Nat.le_refl _) (by simp) ?_; (case hd => rfl); (case hg => rfl); (case hr => first | (go_simp; done) | (go_simp; rfl)); (case hp => exact (Reps.one (show Kd.M (Kd.int .u8) _ _ _ a0_1 [.int .u8 a0_1] from rfl) (Reps.none _ _))); intro v373 w30 ho31 hb hg_ hnew_; clear hg_ hnew_; (first | rw [← Ny372.out] at ho31 | (simp only [Int.reduceToNat] at ho31; rw [← Ny372.out] at ho31)); have n0_ := am (Kd.R_lower ho31 (below_size (by repeat (first | exact HB.out | apply pb | apply pa | apply pd | refine below_set ?_ GE361.out)))); have n1_ := am (blk_below (g := gb361) (o := .cells #[.int .u8 a0_0, .int .u8 a0_1, .int .u8 a0_2, .int .i16 a0_3, .int .i32 a0_4] 24 (0, 0)) (by first | exact BK361.out | exact blk_drewN BK361.out _) hb); have n2_ := am (below_step (by repeat (first | exact HB.out | apply pb | apply pa | apply pd | refine below_set ?_ GE361.out)) hb); clear BK361; clear HB; have HO374 := n0_; have BK361 := n1_; have HB := n2_; clear n0_ n1_ n2_; clear hb ho31))
       go_ret
       exact ⟨_, by first | rfl | (simp [errW_none, errW_some] <;> rfl) | (simp [*, errW_none, errW_some] <;> rfl), by (with_reducible repeat (first | apply Kd.R_alloc | apply Kd.R_drewN | apply Kd.R_drew)); exact HO374.out, by repeat (first | (with_reducible first | exact HB.out | apply below_alloc | apply pw_below_drewN | apply below_drew1 | refine below_set ?_ GE361.out) | exact HB.out)⟩
 ·rw [if_neg c3] at H
  have c3b0 : (t362 == 1) = false := beq_eq_false_iff_ne.mpr c3
  have c3b1 : (t362 != 1) = true := bne_iff_ne.mpr c3
  by_cases c32 : t362 = 2
  ·rw [if_pos c32] at H
   have c32b0 : (t362 == 2) = true := beq_iff_eq.mpr c32
   have c32b1 : (t362 != 2) = false := bne_eq_false_iff_eq.mpr c32
   clear c32
   obtain ⟨y375, hy375⟩ : ∃ y_ : List Int, y_ = (([a0_2] : List Int)) := ⟨_, rfl⟩
   replace H : (some y375) = some r := by first | (rw [hy375]; with_reducible exact H) | (have H2_ := (Option.bind_some _ _).symm.trans H; rw [hy375]; with_reducible exact H2_) | (have H2_ := (Option.bind_some _ _).symm.trans H; with_reducible exact H2_) | with_reducible exact H | (rw [hy375]; exact H) | exact H
   have Ny375 := am hy375
   clear hy375
   obtain rfl := Option.some.inj H
   go_enter Try.func31, Try.ntmps31
   go_wp2_with (first | ((with_reducible refine gate_dst (N := 1) rfl ?_); refine box_event ?hg (N := 1) ?hd (cs := #[.int .u8 a0_0, .int .u8 a0_1, .int .u8 a0_2, .int .i16 a0_3, .int .i32 a0_4]) (t := 24) ?hr ?_; (case hd => rfl); (case hg => rfl); (case hr => first | (go_simp; done) | (go_simp; rfl)); intro gb361 hg w33 hbox hb; have n0_ := am (below_step (by repeat (first | exact HB.out | apply pb | apply pa | apply pd)) hb); have n1_ := am (hbox); have n2_ := am ((by rw [hg]; exact (below_size (by repeat (first | exact HB.out | apply pb | apply pa | apply pd))) : w.heap.size ≤ gb361)); have n3_ := am ((by rw [hg]; exact (below_size (by repeat (first | exact HB.out | apply pb | apply pa | apply pd))) : w.heap.size ≤ gb361)); clear HB; have HB := n0_; have BK361 := n1_; have GW361 := n2_; have GE361 := n3_; clear n0_ n1_ n2_ n3_; clear hb hbox hg; have hcz34_0 : w33.cell? ⟨gb361, 0, none⟩ = some (.int .u8 a0_0) := (blk_cell BK361.out 0).trans rfl; have hcz34_1 : w33.cell? ⟨gb361, 1, none⟩ = some (.int .u8 a0_1) := (blk_cell BK361.out 1).trans rfl; have hcz34_2 : w33.cell? ⟨gb361, 2, none⟩ = some (.int .u8 a0_2) := (blk_cell BK361.out 2).trans rfl; have hcz34_3 : w33.cell? ⟨gb361, 3, none⟩ = some (.int .i16 a0_3) := (blk_cell BK361.out 3).trans rfl; have hcz34_4 : w33.cell? ⟨gb361, 4, none⟩ = some (.int .i32 a0_4) := (blk_cell BK361.out 4).trans rfl; have hfz34_0 := blk_frozen BK361.out 0; have hfz34_1 := blk_frozen BK361.out 1; have hfz34_2 := blk_frozen BK361.out 2; have hfz34_3 := blk_frozen BK361.out 3; have hfz34_4 := blk_frozen BK361.out 4) | ((with_reducible refine gate_callee (f := 20) rfl ?_); refine goesL_ (some 5) rfl rfl Try.func20 (by kernel_rfl) rfl #[.agg #[.int .u8 a0_0, .int .u8 a0_1, .int .u8 a0_2, .int .i16 a0_3, .int .i32 a0_4]] rfl (by (try simp only [List.map_toArray, List.map_cons, List.map_nil]); first | done | rfl) ?_; (with_reducible refine (wardenref07_Kind.calls k a0_0 a0_1 a0_2 a0_3 a0_4 t362 _ A2.out).mono ?_); rintro e w35 ⟨rfl, hb⟩; refine ⟨_, rfl, ?_⟩; have n0_ := am (blk_below (g := gb361) (o := .cells #[.int .u8 a0_0, .int .u8 a0_1, .int .u8 a0_2, .int .i16 a0_3, .int .i32 a0_4] 24 (0, 0)) (by first | exact BK361.out | exact blk_drewN BK361.out _) hb); have n1_ := am (below_step (by repeat (first | exact HB.out | apply pb | apply pa | apply pd | refine below_set ?_ GE361.out)) hb); clear BK361; clear HB; have BK361 := n0_; have HB := n1_; clear n0_ n1_; (try clear hb); (try clear hb2); (try clear hk); (try clear hi); have hcz36_0 : w35.cell? ⟨gb361, 0, none⟩ = some (.int .u8 a0_0) := (blk_cell BK361.out 0).trans rfl; have hcz36_1 : w35.cell? ⟨gb361, 1, none⟩ = some (.int .u8 a0_1) := (blk_cell BK361.out 1).trans rfl; have hcz36_2 : w35.cell? ⟨gb361, 2, none⟩ = some (.int .u8 a0_2) := (blk_cell BK361.out 2).trans rfl; have hcz36_3 : w35.cell? ⟨gb361, 3, none⟩ = some (.int .i16 a0_3) := (blk_cell BK361.out 3).trans rfl; have hcz36_4 : w35.cell? ⟨gb361, 4, none⟩ = some (.int .i32 a0_4) := (blk_cell BK361.out 4).trans rfl; have hfz36_0 := blk_frozen BK361.out 0; have hfz36_1 := blk_frozen BK361.out 1; have hfz36_2 := blk_frozen BK361.out 2; have hfz36_3 := blk_frozen BK361.out 3; have hfz36_4 := blk_frozen BK361.out 4) | ((with_reducible refine gate_dst (N := 34) rfl ?_); refine Kd.R_lit (Kd.int .u8) _ 5 ?hg (N := 34) ?hd (xs := ([a0_2] : List Int)) (inner := [.int .u8 a0_2]) (ok := fun _ => True) (okp := fun _ => True) ?hr ?hp (fun _ hk => hk) trivial (Below.refl _ _) (Nat.le_refl _) (by simp) ?_; (case hd => rfl); (case hg => rfl); (case hr => first | (go_simp; done) | (go_simp; rfl)); (case hp => exact (Reps.one (show Kd.M (Kd.int .u8) _ _ _ a0_2 [.int .u8 a0_2] from rfl) (Reps.none _ _))); intro v376 w37 ho38 hb hg_ hnew_; clear hg_ hnew_; (first | rw [← Ny375.out] at ho38 | (simp only [Int.reduceToNat] at ho38; rw [← Ny375.out] at ho38)); have n0_ := am (Kd.R_lower ho38 (below_size (by repeat (first | exact HB.out | apply pb | apply pa | apply pd | refine below_set ?_ GE361.out)))); have n1_ := am (blk_below (g := gb361) (o := .cells #[.int .u8 a0_0, .int .u8 a0_1, .int .u8 a0_2, .int .i16 a0_3, .int .i32 a0_4] 24 (0, 0)) (by first | exact BK361.out | exact blk_drewN BK361.out _) hb); have n2_ := am (below_step (by repeat (first | exact HB.out | apply pb | apply pa | apply pd | refine below_set ?_ GE361.out)) hb); clear BK361; clear HB; have HO377 := n0_; have BK361 := n1_; have HB := n2_; clear n0_ n1_ n2_; clear hb ho38))
   go_ret
   exact ⟨_, by first | rfl | (simp [errW_none, errW_some] <;> rfl) | (simp [*, errW_none, errW_some] <;> rfl), by (with_reducible repeat (first | apply Kd.R_alloc | apply Kd.R_drewN | apply Kd.R_drew)); exact HO377.out, by repeat (first | (with_reducible first | exact HB.out | apply below_alloc | apply pw_below_drewN | apply below_drew1 | refine below_set ?_ GE361.out) | exact HB.out)⟩
  ·rw [if_neg c32] at H
   have c32b0 : (t362 == 2) = false := beq_eq_false_iff_ne.mpr c32
   have c32b1 : (t362 != 2) = true := bne_iff_ne.mpr c32
   by_cases c39 : t362 = 3
   ·rw [if_pos c39] at H
    have c39b0 : (t362 == 3) = true := beq_iff_eq.mpr c39
    have c39b1 : (t362 != 3) = false := bne_eq_false_iff_eq.mpr c39
    clear c39
    obtain ⟨y378, hy378⟩ : ∃ y_ : List Int, y_ = (([a0_1] : List Int)) := ⟨_, rfl⟩
    replace H : (some y378) = some r := by first | (rw [hy378]; with_reducible exact H) | (have H2_ := (Option.bind_some _ _).symm.trans H; rw [hy378]; with_reducible exact H2_) | (have H2_ := (Option.bind_some _ _).symm.trans H; with_reducible exact H2_) | with_reducible exact H | (rw [hy378]; exact H) | exact H
    have Ny378 := am hy378
    clear hy378
    obtain rfl := Option.some.inj H
    go_enter Try.func31, Try.ntmps31
    go_wp2_with (first | ((with_reducible refine gate_dst (N := 1) rfl ?_); refine box_event ?hg (N := 1) ?hd (cs := #[.int .u8 a0_0, .int .u8 a0_1, .int .u8 a0_2, .int .i16 a0_3, .int .i32 a0_4]) (t := 24) ?hr ?_; (case hd => rfl); (case hg => rfl); (case hr => first | (go_simp; done) | (go_simp; rfl)); intro gb361 hg w40 hbox hb; have n0_ := am (below_step (by repeat (first | exact HB.out | apply pb | apply pa | apply pd)) hb); have n1_ := am (hbox); have n2_ := am ((by rw [hg]; exact (below_size (by repeat (first | exact HB.out | apply pb | apply pa | apply pd))) : w.heap.size ≤ gb361)); have n3_ := am ((by rw [hg]; exact (below_size (by repeat (first | exact HB.out | apply pb | apply pa | apply pd))) : w.heap.size ≤ gb361)); clear HB; have HB := n0_; have BK361 := n1_; have GW361 := n2_; have GE361 := n3_; clear n0_ n1_ n2_ n3_; clear hb hbox hg; have hcz41_0 : w40.cell? ⟨gb361, 0, none⟩ = some (.int .u8 a0_0) := (blk_cell BK361.out 0).trans rfl; have hcz41_1 : w40.cell? ⟨gb361, 1, none⟩ = some (.int .u8 a0_1) := (blk_cell BK361.out 1).trans rfl; have hcz41_2 : w40.cell? ⟨gb361, 2, none⟩ = some (.int .u8 a0_2) := (blk_cell BK361.out 2).trans rfl; have hcz41_3 : w40.cell? ⟨gb361, 3, none⟩ = some (.int .i16 a0_3) := (blk_cell BK361.out 3).trans rfl; have hcz41_4 : w40.cell? ⟨gb361, 4, none⟩ = some (.int .i32 a0_4) := (blk_cell BK361.out 4).trans rfl; have hfz41_0 := blk_frozen BK361.out 0; have hfz41_1 := blk_frozen BK361.out 1; have hfz41_2 := blk_frozen BK361.out 2; have hfz41_3 := blk_frozen BK361.out 3; have hfz41_4 := blk_frozen BK361.out 4) | ((with_reducible refine gate_callee (f := 20) rfl ?_); refine goesL_ (some 5) rfl rfl Try.func20 (by kernel_rfl) rfl #[.agg #[.int .u8 a0_0, .int .u8 a0_1, .int .u8 a0_2, .int .i16 a0_3, .int .i32 a0_4]] rfl (by (try simp only [List.map_toArray, List.map_cons, List.map_nil]); first | done | rfl) ?_; (with_reducible refine (wardenref07_Kind.calls k a0_0 a0_1 a0_2 a0_3 a0_4 t362 _ A2.out).mono ?_); rintro e w42 ⟨rfl, hb⟩; refine ⟨_, rfl, ?_⟩; have n0_ := am (blk_below (g := gb361) (o := .cells #[.int .u8 a0_0, .int .u8 a0_1, .int .u8 a0_2, .int .i16 a0_3, .int .i32 a0_4] 24 (0, 0)) (by first | exact BK361.out | exact blk_drewN BK361.out _) hb); have n1_ := am (below_step (by repeat (first | exact HB.out | apply pb | apply pa | apply pd | refine below_set ?_ GE361.out)) hb); clear BK361; clear HB; have BK361 := n0_; have HB := n1_; clear n0_ n1_; (try clear hb); (try clear hb2); (try clear hk); (try clear hi); have hcz43_0 : w42.cell? ⟨gb361, 0, none⟩ = some (.int .u8 a0_0) := (blk_cell BK361.out 0).trans rfl; have hcz43_1 : w42.cell? ⟨gb361, 1, none⟩ = some (.int .u8 a0_1) := (blk_cell BK361.out 1).trans rfl; have hcz43_2 : w42.cell? ⟨gb361, 2, none⟩ = some (.int .u8 a0_2) := (blk_cell BK361.out 2).trans rfl; have hcz43_3 : w42.cell? ⟨gb361, 3, none⟩ = some (.int .i16 a0_3) := (blk_cell BK361.out 3).trans rfl; have hcz43_4 : w42.cell? ⟨gb361, 4, none⟩ = some (.int .i32 a0_4) := (blk_cell BK361.out 4).trans rfl; have hfz43_0 := blk_frozen BK361.out 0; have hfz43_1 := blk_frozen BK361.out 1; have hfz43_2 := blk_frozen BK361.out 2; have hfz43_3 := blk_frozen BK361.out 3; have hfz43_4 := blk_frozen BK361.out 4) | ((with_reducible refine gate_dst (N := 39) rfl ?_); refine Kd.R_lit (Kd.int .u8) _ 5 ?hg (N := 39) ?hd (xs := ([a0_1] : List Int)) (inner := [.int .u8 a0_1]) (ok := fun _ => True) (okp := fun _ => True) ?hr ?hp (fun _ hk => hk) trivial (Below.refl _ _) (Nat.le_refl _) (by simp) ?_; (case hd => rfl); (case hg => rfl); (case hr => first | (go_simp; done) | (go_simp; rfl)); (case hp => exact (Reps.one (show Kd.M (Kd.int .u8) _ _ _ a0_1 [.int .u8 a0_1] from rfl) (Reps.none _ _))); intro v379 w44 ho45 hb hg_ hnew_; clear hg_ hnew_; (first | rw [← Ny378.out] at ho45 | (simp only [Int.reduceToNat] at ho45; rw [← Ny378.out] at ho45)); have n0_ := am (Kd.R_lower ho45 (below_size (by repeat (first | exact HB.out | apply pb | apply pa | apply pd | refine below_set ?_ GE361.out)))); have n1_ := am (blk_below (g := gb361) (o := .cells #[.int .u8 a0_0, .int .u8 a0_1, .int .u8 a0_2, .int .i16 a0_3, .int .i32 a0_4] 24 (0, 0)) (by first | exact BK361.out | exact blk_drewN BK361.out _) hb); have n2_ := am (below_step (by repeat (first | exact HB.out | apply pb | apply pa | apply pd | refine below_set ?_ GE361.out)) hb); clear BK361; clear HB; have HO380 := n0_; have BK361 := n1_; have HB := n2_; clear n0_ n1_ n2_; clear hb ho45))
    go_ret
    exact ⟨_, by first | rfl | (simp [errW_none, errW_some] <;> rfl) | (simp [*, errW_none, errW_some] <;> rfl), by (with_reducible repeat (first | apply Kd.R_alloc | apply Kd.R_drewN | apply Kd.R_drew)); exact HO380.out, by repeat (first | (with_reducible first | exact HB.out | apply below_alloc | apply pw_below_drewN | apply below_drew1 | refine below_set ?_ GE361.out) | exact HB.out)⟩
   ·rw [if_neg c39] at H
    have c39b0 : (t362 == 3) = false := beq_eq_false_iff_ne.mpr c39
    have c39b1 : (t362 != 3) = true := bne_iff_ne.mpr c39
    by_cases c46 : t362 = 4
    ·rw [if_pos c46] at H
     have c46b0 : (t362 == 4) = true := beq_iff_eq.mpr c46
     have c46b1 : (t362 != 4) = false := bne_eq_false_iff_eq.mpr c46
     clear c46
     replace H := Option.bind_eq_some_iff.mp H
     obtain ⟨t381, A470, H⟩ := H
     try dsimp only at H
     have A47 := am A470
     clear A470
     obtain rfl := Option.some.inj H
     go_enter Try.func31, Try.ntmps31
     go_wp2_with (first | ((with_reducible refine gate_dst (N := 1) rfl ?_); refine box_event ?hg (N := 1) ?hd (cs := #[.int .u8 a0_0, .int .u8 a0_1, .int .u8 a0_2, .int .i16 a0_3, .int .i32 a0_4]) (t := 24) ?hr ?_; (case hd => rfl); (case hg => rfl); (case hr => first | (go_simp; done) | (go_simp; rfl)); intro gb361 hg w48 hbox hb; have n0_ := am (below_step (by repeat (first | exact HB.out | apply pb | apply pa | apply pd)) hb); have n1_ := am (hbox); have n2_ := am ((by rw [hg]; exact (below_size (by repeat (first | exact HB.out | apply pb | apply pa | apply pd))) : w.heap.size ≤ gb361)); have n3_ := am ((by rw [hg]; exact (below_size (by repeat (first | exact HB.out | apply pb | apply pa | apply pd))) : w.heap.size ≤ gb361)); clear HB; have HB := n0_; have BK361 := n1_; have GW361 := n2_; have GE361 := n3_; clear n0_ n1_ n2_ n3_; clear hb hbox hg; have hcz49_0 : w48.cell? ⟨gb361, 0, none⟩ = some (.int .u8 a0_0) := (blk_cell BK361.out 0).trans rfl; have hcz49_1 : w48.cell? ⟨gb361, 1, none⟩ = some (.int .u8 a0_1) := (blk_cell BK361.out 1).trans rfl; have hcz49_2 : w48.cell? ⟨gb361, 2, none⟩ = some (.int .u8 a0_2) := (blk_cell BK361.out 2).trans rfl; have hcz49_3 : w48.cell? ⟨gb361, 3, none⟩ = some (.int .i16 a0_3) := (blk_cell BK361.out 3).trans rfl; have hcz49_4 : w48.cell? ⟨gb361, 4, none⟩ = some (.int .i32 a0_4) := (blk_cell BK361.out 4).trans rfl; have hfz49_0 := blk_frozen BK361.out 0; have hfz49_1 := blk_frozen BK361.out 1; have hfz49_2 := blk_frozen BK361.out 2; have hfz49_3 := blk_frozen BK361.out 3; have hfz49_4 := blk_frozen BK361.out 4) | ((with_reducible refine gate_callee (f := 20) rfl ?_); refine goesL_ (some 5) rfl rfl Try.func20 (by kernel_rfl) rfl #[.agg #[.int .u8 a0_0, .int .u8 a0_1, .int .u8 a0_2, .int .i16 a0_3, .int .i32 a0_4]] rfl (by (try simp only [List.map_toArray, List.map_cons, List.map_nil]); first | done | rfl) ?_; (with_reducible refine (wardenref07_Kind.calls k a0_0 a0_1 a0_2 a0_3 a0_4 t362 _ A2.out).mono ?_); rintro e w50 ⟨rfl, hb⟩; refine ⟨_, rfl, ?_⟩; have n0_ := am (blk_below (g := gb361) (o := .cells #[.int .u8 a0_0, .int .u8 a0_1, .int .u8 a0_2, .int .i16 a0_3, .int .i32 a0_4] 24 (0, 0)) (by first | exact BK361.out | exact blk_drewN BK361.out _) hb); have n1_ := am (below_step (by repeat (first | exact HB.out | apply pb | apply pa | apply pd | refine below_set ?_ GE361.out)) hb); clear BK361; clear HB; have BK361 := n0_; have HB := n1_; clear n0_ n1_; (try clear hb); (try clear hb2); (try clear hk); (try clear hi); have hcz51_0 : w50.cell? ⟨gb361, 0, none⟩ = some (.int .u8 a0_0) := (blk_cell BK361.out 0).trans rfl; have hcz51_1 : w50.cell? ⟨gb361, 1, none⟩ = some (.int .u8 a0_1) := (blk_cell BK361.out 1).trans rfl; have hcz51_2 : w50.cell? ⟨gb361, 2, none⟩ = some (.int .u8 a0_2) := (blk_cell BK361.out 2).trans rfl; have hcz51_3 : w50.cell? ⟨gb361, 3, none⟩ = some (.int .i16 a0_3) := (blk_cell BK361.out 3).trans rfl; have hcz51_4 : w50.cell? ⟨gb361, 4, none⟩ = some (.int .i32 a0_4) := (blk_cell BK361.out 4).trans rfl; have hfz51_0 := blk_frozen BK361.out 0; have hfz51_1 := blk_frozen BK361.out 1; have hfz51_2 := blk_frozen BK361.out 2; have hfz51_3 := blk_frozen BK361.out 3; have hfz51_4 := blk_frozen BK361.out 4) | ((with_reducible refine gate_callee (f := 60) rfl ?_); refine goesL_ (some 46) rfl rfl Try.func60 (by kernel_rfl) rfl #[.int .u8 a0_1, .int .u8 a0_2] rfl (by (try simp only [List.map_toArray, List.map_cons, List.map_nil]); first | done | rfl) ?_; (with_reducible refine (wardenref07_two.calls a0_1 a0_2 t381 _ A47.out).mono ?_); rintro e w52 ⟨v382, rfl, ho0, hb⟩; refine ⟨_, rfl, ?_⟩; have n0_ := am (Kd.R_lower ho0 (below_size (by repeat (first | exact HB.out | apply pb | apply pa | apply pd | refine below_set ?_ GE361.out)))); have n1_ := am (blk_below (g := gb361) (o := .cells #[.int .u8 a0_0, .int .u8 a0_1, .int .u8 a0_2, .int .i16 a0_3, .int .i32 a0_4] 24 (0, 0)) (by first | exact BK361.out | exact blk_drewN BK361.out _) hb); have n2_ := am (below_step (by repeat (first | exact HB.out | apply pb | apply pa | apply pd | refine below_set ?_ GE361.out)) hb); clear BK361; clear HB; have HO383 := n0_; have BK361 := n1_; have HB := n2_; clear n0_ n1_ n2_; (try clear hb); (try clear hb2); (try clear hk); (try clear hi); (try clear ho0)))
     go_ret
     exact ⟨_, by first | rfl | (simp [errW_none, errW_some] <;> rfl) | (simp [*, errW_none, errW_some] <;> rfl), by (with_reducible repeat (first | apply Kd.R_alloc | apply Kd.R_drewN | apply Kd.R_drew)); exact HO383.out, by repeat (first | (with_reducible first | exact HB.out | apply below_alloc | apply pw_below_drewN | apply below_drew1 | refine below_set ?_ GE361.out) | exact HB.out)⟩
    ·rw [if_neg c46] at H
     have c46b0 : (t362 == 4) = false := beq_eq_false_iff_ne.mpr c46
     have c46b1 : (t362 != 4) = true := bne_iff_ne.mpr c46
     by_cases c53 : t362 = 5
     ·rw [if_pos c53] at H
      have c53b0 : (t362 == 5) = true := beq_iff_eq.mpr c53
      have c53b1 : (t362 != 5) = false := bne_eq_false_iff_eq.mpr c53
      clear c53
      replace H := Option.bind_eq_some_iff.mp H
      obtain ⟨t384, A540, H⟩ := H
      try dsimp only at H
      have A54 := am A540
      clear A540
      by_cases c55 : t384 = true
      ·subst c55
       have H1 : ((wardenref07_two.f a0_1 a0_2).bind fun t385 => (some t385)) = some r := by rw [if_pos rfl] at H; exact H
       clear H
       have H := H1
       clear H1
       replace H := Option.bind_eq_some_iff.mp H
       obtain ⟨t385, A560, H⟩ := H
       try dsimp only at H
       have A56 := am A560
       clear A560
       obtain rfl := Option.some.inj H
       go_enter Try.func31, Try.ntmps31
       go_wp2_with (first | ((with_reducible refine gate_dst (N := 1) rfl ?_); refine box_event ?hg (N := 1) ?hd (cs := #[.int .u8 a0_0, .int .u8 a0_1, .int .u8 a0_2, .int .i16 a0_3, .int .i32 a0_4]) (t := 24) ?hr ?_; (case hd => rfl); (case hg => rfl); (case hr => first | (go_simp; done) | (go_simp; rfl)); intro gb361 hg w57 hbox hb; have n0_ := am (below_step (by repeat (first | exact HB.out | apply pb | apply pa | apply pd)) hb); have n1_ := am (hbox); have n2_ := am ((by rw [hg]; exact (below_size (by repeat (first | exact HB.out | apply pb | apply pa | apply pd))) : w.heap.size ≤ gb361)); have n3_ := am ((by rw [hg]; exact (below_size (by repeat (first | exact HB.out | apply pb | apply pa | apply pd))) : w.heap.size ≤ gb361)); clear HB; have HB := n0_; have BK361 := n1_; have GW361 := n2_; have GE361 := n3_; clear n0_ n1_ n2_ n3_; clear hb hbox hg; have hcz58_0 : w57.cell? ⟨gb361, 0, none⟩ = some (.int .u8 a0_0) := (blk_cell BK361.out 0).trans rfl; have hcz58_1 : w57.cell? ⟨gb361, 1, none⟩ = some (.int .u8 a0_1) := (blk_cell BK361.out 1).trans rfl; have hcz58_2 : w57.cell? ⟨gb361, 2, none⟩ = some (.int .u8 a0_2) := (blk_cell BK361.out 2).trans rfl; have hcz58_3 : w57.cell? ⟨gb361, 3, none⟩ = some (.int .i16 a0_3) := (blk_cell BK361.out 3).trans rfl; have hcz58_4 : w57.cell? ⟨gb361, 4, none⟩ = some (.int .i32 a0_4) := (blk_cell BK361.out 4).trans rfl; have hfz58_0 := blk_frozen BK361.out 0; have hfz58_1 := blk_frozen BK361.out 1; have hfz58_2 := blk_frozen BK361.out 2; have hfz58_3 := blk_frozen BK361.out 3; have hfz58_4 := blk_frozen BK361.out 4) | ((with_reducible refine gate_callee (f := 20) rfl ?_); refine goesL_ (some 5) rfl rfl Try.func20 (by kernel_rfl) rfl #[.agg #[.int .u8 a0_0, .int .u8 a0_1, .int .u8 a0_2, .int .i16 a0_3, .int .i32 a0_4]] rfl (by (try simp only [List.map_toArray, List.map_cons, List.map_nil]); first | done | rfl) ?_; (with_reducible refine (wardenref07_Kind.calls k a0_0 a0_1 a0_2 a0_3 a0_4 t362 _ A2.out).mono ?_); rintro e w59 ⟨rfl, hb⟩; refine ⟨_, rfl, ?_⟩; have n0_ := am (blk_below (g := gb361) (o := .cells #[.int .u8 a0_0, .int .u8 a0_1, .int .u8 a0_2, .int .i16 a0_3, .int .i32 a0_4] 24 (0, 0)) (by first | exact BK361.out | exact blk_drewN BK361.out _) hb); have n1_ := am (below_step (by repeat (first | exact HB.out | apply pb | apply pa | apply pd | refine below_set ?_ GE361.out)) hb); clear BK361; clear HB; have BK361 := n0_; have HB := n1_; clear n0_ n1_; (try clear hb); (try clear hb2); (try clear hk); (try clear hi); have hcz60_0 : w59.cell? ⟨gb361, 0, none⟩ = some (.int .u8 a0_0) := (blk_cell BK361.out 0).trans rfl; have hcz60_1 : w59.cell? ⟨gb361, 1, none⟩ = some (.int .u8 a0_1) := (blk_cell BK361.out 1).trans rfl; have hcz60_2 : w59.cell? ⟨gb361, 2, none⟩ = some (.int .u8 a0_2) := (blk_cell BK361.out 2).trans rfl; have hcz60_3 : w59.cell? ⟨gb361, 3, none⟩ = some (.int .i16 a0_3) := (blk_cell BK361.out 3).trans rfl; have hcz60_4 : w59.cell? ⟨gb361, 4, none⟩ = some (.int .i32 a0_4) := (blk_cell BK361.out 4).trans rfl; have hfz60_0 := blk_frozen BK361.out 0; have hfz60_1 := blk_frozen BK361.out 1; have hfz60_2 := blk_frozen BK361.out 2; have hfz60_3 := blk_frozen BK361.out 3; have hfz60_4 := blk_frozen BK361.out 4) | ((with_reducible refine gate_callee (f := 55) rfl ?_); refine goesL_ (some 50) rfl rfl Try.func55 (by kernel_rfl) rfl #[.agg #[.int .u8 a0_0, .int .u8 a0_1, .int .u8 a0_2, .int .i16 a0_3, .int .i32 a0_4]] rfl (by (try simp only [List.map_toArray, List.map_cons, List.map_nil]); first | done | rfl) ?_; (with_reducible refine (wardenref07_x.calls a0_0 a0_1 a0_2 a0_3 a0_4 true _ A54.out).mono ?_); rintro e w61 ⟨rfl, hb⟩; refine ⟨_, rfl, ?_⟩; have n0_ := am (blk_below (g := gb361) (o := .cells #[.int .u8 a0_0, .int .u8 a0_1, .int .u8 a0_2, .int .i16 a0_3, .int .i32 a0_4] 24 (0, 0)) (by first | exact BK361.out | exact blk_drewN BK361.out _) hb); have n1_ := am (below_step (by repeat (first | exact HB.out | apply pb | apply pa | apply pd | refine below_set ?_ GE361.out)) hb); clear BK361; clear HB; have BK361 := n0_; have HB := n1_; clear n0_ n1_; (try clear hb); (try clear hb2); (try clear hk); (try clear hi); have hcz62_0 : w61.cell? ⟨gb361, 0, none⟩ = some (.int .u8 a0_0) := (blk_cell BK361.out 0).trans rfl; have hcz62_1 : w61.cell? ⟨gb361, 1, none⟩ = some (.int .u8 a0_1) := (blk_cell BK361.out 1).trans rfl; have hcz62_2 : w61.cell? ⟨gb361, 2, none⟩ = some (.int .u8 a0_2) := (blk_cell BK361.out 2).trans rfl; have hcz62_3 : w61.cell? ⟨gb361, 3, none⟩ = some (.int .i16 a0_3) := (blk_cell BK361.out 3).trans rfl; have hcz62_4 : w61.cell? ⟨gb361, 4, none⟩ = some (.int .i32 a0_4) := (blk_cell BK361.out 4).trans rfl; have hfz62_0 := blk_frozen BK361.out 0; have hfz62_1 := blk_frozen BK361.out 1; have hfz62_2 := blk_frozen BK361.out 2; have hfz62_3 := blk_frozen BK361.out 3; have hfz62_4 := blk_frozen BK361.out 4) | ((with_reducible refine gate_callee (f := 60) rfl ?_); refine goesL_ (some 55) rfl rfl Try.func60 (by kernel_rfl) rfl #[.int .u8 a0_1, .int .u8 a0_2] rfl (by (try simp only [List.map_toArray, List.map_cons, List.map_nil]); first | done | rfl) ?_; (with_reducible refine (wardenref07_two.calls a0_1 a0_2 t385 _ A56.out).mono ?_); rintro e w63 ⟨v386, rfl, ho0, hb⟩; refine ⟨_, rfl, ?_⟩; have n0_ := am (Kd.R_lower ho0 (below_size (by repeat (first | exact HB.out | apply pb | apply pa | apply pd | refine below_set ?_ GE361.out)))); have n1_ := am (blk_below (g := gb361) (o := .cells #[.int .u8 a0_0, .int .u8 a0_1, .int .u8 a0_2, .int .i16 a0_3, .int .i32 a0_4] 24 (0, 0)) (by first | exact BK361.out | exact blk_drewN BK361.out _) hb); have n2_ := am (below_step (by repeat (first | exact HB.out | apply pb | apply pa | apply pd | refine below_set ?_ GE361.out)) hb); clear BK361; clear HB; have HO387 := n0_; have BK361 := n1_; have HB := n2_; clear n0_ n1_ n2_; (try clear hb); (try clear hb2); (try clear hk); (try clear hi); (try clear ho0)))
       go_ret
       exact ⟨_, by first | rfl | (simp [errW_none, errW_some] <;> rfl) | (simp [*, errW_none, errW_some] <;> rfl), by (with_reducible repeat (first | apply Kd.R_alloc | apply Kd.R_drewN | apply Kd.R_drew)); exact HO387.out, by repeat (first | (with_reducible first | exact HB.out | apply below_alloc | apply pw_below_drewN | apply below_drew1 | refine below_set ?_ GE361.out) | exact HB.out)⟩
      ·replace c55 := Bool.eq_false_iff.mpr c55
       subst c55
       have H1 : (some (([a0_1] : List Int))) = some r := by rw [if_neg (show ¬ (false = true) by decide)] at H; exact H
       clear H
       have H := H1
       clear H1
       obtain ⟨y388, hy388⟩ : ∃ y_ : List Int, y_ = (([a0_1] : List Int)) := ⟨_, rfl⟩
       replace H : (some y388) = some r := by first | (rw [hy388]; with_reducible exact H) | (have H2_ := (Option.bind_some _ _).symm.trans H; rw [hy388]; with_reducible exact H2_) | (have H2_ := (Option.bind_some _ _).symm.trans H; with_reducible exact H2_) | with_reducible exact H | (rw [hy388]; exact H) | exact H
       have Ny388 := am hy388
       clear hy388
       obtain rfl := Option.some.inj H
       go_enter Try.func31, Try.ntmps31
       go_wp2_with (first | ((with_reducible refine gate_dst (N := 1) rfl ?_); refine box_event ?hg (N := 1) ?hd (cs := #[.int .u8 a0_0, .int .u8 a0_1, .int .u8 a0_2, .int .i16 a0_3, .int .i32 a0_4]) (t := 24) ?hr ?_; (case hd => rfl); (case hg => rfl); (case hr => first | (go_simp; done) | (go_simp; rfl)); intro gb361 hg w64 hbox hb; have n0_ := am (below_step (by repeat (first | exact HB.out | apply pb | apply pa | apply pd)) hb); have n1_ := am (hbox); have n2_ := am ((by rw [hg]; exact (below_size (by repeat (first | exact HB.out | apply pb | apply pa | apply pd))) : w.heap.size ≤ gb361)); have n3_ := am ((by rw [hg]; exact (below_size (by repeat (first | exact HB.out | apply pb | apply pa | apply pd))) : w.heap.size ≤ gb361)); clear HB; have HB := n0_; have BK361 := n1_; have GW361 := n2_; have GE361 := n3_; clear n0_ n1_ n2_ n3_; clear hb hbox hg; have hcz65_0 : w64.cell? ⟨gb361, 0, none⟩ = some (.int .u8 a0_0) := (blk_cell BK361.out 0).trans rfl; have hcz65_1 : w64.cell? ⟨gb361, 1, none⟩ = some (.int .u8 a0_1) := (blk_cell BK361.out 1).trans rfl; have hcz65_2 : w64.cell? ⟨gb361, 2, none⟩ = some (.int .u8 a0_2) := (blk_cell BK361.out 2).trans rfl; have hcz65_3 : w64.cell? ⟨gb361, 3, none⟩ = some (.int .i16 a0_3) := (blk_cell BK361.out 3).trans rfl; have hcz65_4 : w64.cell? ⟨gb361, 4, none⟩ = some (.int .i32 a0_4) := (blk_cell BK361.out 4).trans rfl; have hfz65_0 := blk_frozen BK361.out 0; have hfz65_1 := blk_frozen BK361.out 1; have hfz65_2 := blk_frozen BK361.out 2; have hfz65_3 := blk_frozen BK361.out 3; have hfz65_4 := blk_frozen BK361.out 4) | ((with_reducible refine gate_callee (f := 20) rfl ?_); refine goesL_ (some 5) rfl rfl Try.func20 (by kernel_rfl) rfl #[.agg #[.int .u8 a0_0, .int .u8 a0_1, .int .u8 a0_2, .int .i16 a0_3, .int .i32 a0_4]] rfl (by (try simp only [List.map_toArray, List.map_cons, List.map_nil]); first | done | rfl) ?_; (with_reducible refine (wardenref07_Kind.calls k a0_0 a0_1 a0_2 a0_3 a0_4 t362 _ A2.out).mono ?_); rintro e w66 ⟨rfl, hb⟩; refine ⟨_, rfl, ?_⟩; have n0_ := am (blk_below (g := gb361) (o := .cells #[.int .u8 a0_0, .int .u8 a0_1, .int .u8 a0_2, .int .i16 a0_3, .int .i32 a0_4] 24 (0, 0)) (by first | exact BK361.out | exact blk_drewN BK361.out _) hb); have n1_ := am (below_step (by repeat (first | exact HB.out | apply pb | apply pa | apply pd | refine below_set ?_ GE361.out)) hb); clear BK361; clear HB; have BK361 := n0_; have HB := n1_; clear n0_ n1_; (try clear hb); (try clear hb2); (try clear hk); (try clear hi); have hcz67_0 : w66.cell? ⟨gb361, 0, none⟩ = some (.int .u8 a0_0) := (blk_cell BK361.out 0).trans rfl; have hcz67_1 : w66.cell? ⟨gb361, 1, none⟩ = some (.int .u8 a0_1) := (blk_cell BK361.out 1).trans rfl; have hcz67_2 : w66.cell? ⟨gb361, 2, none⟩ = some (.int .u8 a0_2) := (blk_cell BK361.out 2).trans rfl; have hcz67_3 : w66.cell? ⟨gb361, 3, none⟩ = some (.int .i16 a0_3) := (blk_cell BK361.out 3).trans rfl; have hcz67_4 : w66.cell? ⟨gb361, 4, none⟩ = some (.int .i32 a0_4) := (blk_cell BK361.out 4).trans rfl; have hfz67_0 := blk_frozen BK361.out 0; have hfz67_1 := blk_frozen BK361.out 1; have hfz67_2 := blk_frozen BK361.out 2; have hfz67_3 := blk_frozen BK361.out 3; have hfz67_4 := blk_frozen BK361.out 4) | ((with_reducible refine gate_callee (f := 55) rfl ?_); refine goesL_ (some 50) rfl rfl Try.func55 (by kernel_rfl) rfl #[.agg #[.int .u8 a0_0, .int .u8 a0_1, .int .u8 a0_2, .int .i16 a0_3, .int .i32 a0_4]] rfl (by (try simp only [List.map_toArray, List.map_cons, List.map_nil]); first | done | rfl) ?_; (with_reducible refine (wardenref07_x.calls a0_0 a0_1 a0_2 a0_3 a0_4 false _ A54.out).mono ?_); rintro e w68 ⟨rfl, hb⟩; refine ⟨_, rfl, ?_⟩; have n0_ := am (blk_below (g := gb361) (o := .cells #[.int .u8 a0_0, .int .u8 a0_1, .int .u8 a0_2, .int .i16 a0_3, .int .i32 a0_4] 24 (0, 0)) (by first | exact BK361.out | exact blk_drewN BK361.out _) hb); have n1_ := am (below_step (by repeat (first | exact HB.out | apply pb | apply pa | apply pd | refine below_set ?_ GE361.out)) hb); clear BK361; clear HB; have BK361 := n0_; have HB := n1_; clear n0_ n1_; (try clear hb); (try clear hb2); (try clear hk); (try clear hi); have hcz69_0 : w68.cell? ⟨gb361, 0, none⟩ = some (.int .u8 a0_0) := (blk_cell BK361.out 0).trans rfl; have hcz69_1 : w68.cell? ⟨gb361, 1, none⟩ = some (.int .u8 a0_1) := (blk_cell BK361.out 1).trans rfl; have hcz69_2 : w68.cell? ⟨gb361, 2, none⟩ = some (.int .u8 a0_2) := (blk_cell BK361.out 2).trans rfl; have hcz69_3 : w68.cell? ⟨gb361, 3, none⟩ = some (.int .i16 a0_3) := (blk_cell BK361.out 3).trans rfl; have hcz69_4 : w68.cell? ⟨gb361, 4, none⟩ = some (.int .i32 a0_4) := (blk_cell BK361.out 4).trans rfl; have hfz69_0 := blk_frozen BK361.out 0; have hfz69_1 := blk_frozen BK361.out 1; have hfz69_2 := blk_frozen BK361.out 2; have hfz69_3 := blk_frozen BK361.out 3; have hfz69_4 := blk_frozen BK361.out 4) | ((with_reducible refine gate_dst (N := 58) rfl ?_); refine Kd.R_lit (Kd.int .u8) _ 5 ?hg (N := 58) ?hd (xs := ([a0_1] : List Int)) (inner := [.int .u8 a0_1]) (ok := fun _ => True) (okp := fun _ => True) ?hr ?hp (fun _ hk => hk) trivial (Below.refl _ _) (Nat.le_refl _) (by simp) ?_; (case hd => rfl); (case hg => rfl); (case hr => first | (go_simp; done) | (go_simp; rfl)); (case hp => exact (Reps.one (show Kd.M (Kd.int .u8) _ _ _ a0_1 [.int .u8 a0_1] from rfl) (Reps.none _ _))); intro v389 w70 ho71 hb hg_ hnew_; clear hg_ hnew_; (first | rw [← Ny388.out] at ho71 | (simp only [Int.reduceToNat] at ho71; rw [← Ny388.out] at ho71)); have n0_ := am (Kd.R_lower ho71 (below_size (by repeat (first | exact HB.out | apply pb | apply pa | apply pd | refine below_set ?_ GE361.out)))); have n1_ := am (blk_below (g := gb361) (o := .cells #[.int .u8 a0_0, .int .u8 a0_1, .int .u8 a0_2, .int .i16 a0_3, .int .i32 a0_4] 24 (0, 0)) (by first | exact BK361.out | exact blk_drewN BK361.out _) hb); have n2_ := am (below_step (by repeat (first | exact HB.out | apply pb | apply pa | apply pd | refine below_set ?_ GE361.out)) hb); clear BK361; clear HB; have HO390 := n0_; have BK361 := n1_; have HB := n2_; clear n0_ n1_ n2_; clear hb ho71))
       go_ret
       exact ⟨_, by first | rfl | (simp [errW_none, errW_some] <;> rfl) | (simp [*, errW_none, errW_some] <;> rfl), by (with_reducible repeat (first | apply Kd.R_alloc | apply Kd.R_drewN | apply Kd.R_drew)); exact HO390.out, by repeat (first | (with_reducible first | exact HB.out | apply below_alloc | apply pw_below_drewN | apply below_drew1 | refine below_set ?_ GE361.out) | exact HB.out)⟩
     ·rw [if_neg c53] at H
      have c53b0 : (t362 == 5) = false := beq_eq_false_iff_ne.mpr c53
      have c53b1 : (t362 != 5) = true := bne_iff_ne.mpr c53
      by_cases c72 : t362 = 8
      ·rw [if_pos c72] at H
       have c72b0 : (t362 == 8) = true := beq_iff_eq.mpr c72
       have c72b1 : (t362 != 8) = false := bne_eq_false_iff_eq.mpr c72
       clear c72
       obtain ⟨y391, hy391⟩ : ∃ y_ : List Int, y_ = (([0] : List Int)) := ⟨_, rfl⟩
       replace H : (some y391) = some r := by first | (rw [hy391]; with_reducible exact H) | (have H2_ := (Option.bind_some _ _).symm.trans H; rw [hy391]; with_reducible exact H2_) | (have H2_ := (Option.bind_some _ _).symm.trans H; with_reducible exact H2_) | with_reducible exact H | (rw [hy391]; exact H) | exact H
       have Ny391 := am hy391
       clear hy391
       obtain rfl := Option.some.inj H
       go_enter Try.func31, Try.ntmps31
       go_wp2_with (first | ((with_reducible refine gate_dst (N := 1) rfl ?_); refine box_event ?hg (N := 1) ?hd (cs := #[.int .u8 a0_0, .int .u8 a0_1, .int .u8 a0_2, .int .i16 a0_3, .int .i32 a0_4]) (t := 24) ?hr ?_; (case hd => rfl); (case hg => rfl); (case hr => first | (go_simp; done) | (go_simp; rfl)); intro gb361 hg w73 hbox hb; have n0_ := am (below_step (by repeat (first | exact HB.out | apply pb | apply pa | apply pd)) hb); have n1_ := am (hbox); have n2_ := am ((by rw [hg]; exact (below_size (by repeat (first | exact HB.out | apply pb | apply pa | apply pd))) : w.heap.size ≤ gb361)); have n3_ := am ((by rw [hg]; exact (below_size (by repeat (first | exact HB.out | apply pb | apply pa | apply pd))) : w.heap.size ≤ gb361)); clear HB; have HB := n0_; have BK361 := n1_; have GW361 := n2_; have GE361 := n3_; clear n0_ n1_ n2_ n3_; clear hb hbox hg; have hcz74_0 : w73.cell? ⟨gb361, 0, none⟩ = some (.int .u8 a0_0) := (blk_cell BK361.out 0).trans rfl; have hcz74_1 : w73.cell? ⟨gb361, 1, none⟩ = some (.int .u8 a0_1) := (blk_cell BK361.out 1).trans rfl; have hcz74_2 : w73.cell? ⟨gb361, 2, none⟩ = some (.int .u8 a0_2) := (blk_cell BK361.out 2).trans rfl; have hcz74_3 : w73.cell? ⟨gb361, 3, none⟩ = some (.int .i16 a0_3) := (blk_cell BK361.out 3).trans rfl; have hcz74_4 : w73.cell? ⟨gb361, 4, none⟩ = some (.int .i32 a0_4) := (blk_cell BK361.out 4).trans rfl; have hfz74_0 := blk_frozen BK361.out 0; have hfz74_1 := blk_frozen BK361.out 1; have hfz74_2 := blk_frozen BK361.out 2; have hfz74_3 := blk_frozen BK361.out 3; have hfz74_4 := blk_frozen BK361.out 4) | ((with_reducible refine gate_callee (f := 20) rfl ?_); refine goesL_ (some 5) rfl rfl Try.func20 (by kernel_rfl) rfl #[.agg #[.int .u8 a0_0, .int .u8 a0_1, .int .u8 a0_2, .int .i16 a0_3, .int .i32 a0_4]] rfl (by (try simp only [List.map_toArray, List.map_cons, List.map_nil]); first | done | rfl) ?_; (with_reducible refine (wardenref07_Kind.calls k a0_0 a0_1 a0_2 a0_3 a0_4 t362 _ A2.out).mono ?_); rintro e w75 ⟨rfl, hb⟩; refine ⟨_, rfl, ?_⟩; have n0_ := am (blk_below (g := gb361) (o := .cells #[.int .u8 a0_0, .int .u8 a0_1, .int .u8 a0_2, .int .i16 a0_3, .int .i32 a0_4] 24 (0, 0)) (by first | exact BK361.out | exact blk_drewN BK361.out _) hb); have n1_ := am (below_step (by repeat (first | exact HB.out | apply pb | apply pa | apply pd | refine below_set ?_ GE361.out)) hb); clear BK361; clear HB; have BK361 := n0_; have HB := n1_; clear n0_ n1_; (try clear hb); (try clear hb2); (try clear hk); (try clear hi)) | ((with_reducible refine gate_dst (N := 61) rfl ?_); refine Kd.R_lit (Kd.int .u8) _ 5 ?hg (N := 61) ?hd (xs := ([0] : List Int)) (inner := [.int .u8 0]) (ok := fun _ => True) (okp := fun _ => True) ?hr ?hp (fun _ hk => hk) trivial (Below.refl _ _) (Nat.le_refl _) (by simp) ?_; (case hd => rfl); (case hg => rfl); (case hr => first | (go_simp; done) | (go_simp; rfl)); (case hp => exact (Reps.one (show Kd.M (Kd.int .u8) _ _ _ 0 [.int .u8 0] from rfl) (Reps.none _ _))); intro v392 w76 ho77 hb hg_ hnew_; clear hg_ hnew_; (first | rw [← Ny391.out] at ho77 | (simp only [Int.reduceToNat] at ho77; rw [← Ny391.out] at ho77)); have n0_ := am (Kd.R_lower ho77 (below_size (by repeat (first | exact HB.out | apply pb | apply pa | apply pd | refine below_set ?_ GE361.out)))); have n1_ := am (blk_below (g := gb361) (o := .cells #[.int .u8 a0_0, .int .u8 a0_1, .int .u8 a0_2, .int .i16 a0_3, .int .i32 a0_4] 24 (0, 0)) (by first | exact BK361.out | exact blk_drewN BK361.out _) hb); have n2_ := am (below_step (by repeat (first | exact HB.out | apply pb | apply pa | apply pd | refine below_set ?_ GE361.out)) hb); clear BK361; clear HB; have HO393 := n0_; have BK361 := n1_; have HB := n2_; clear n0_ n1_ n2_; clear hb ho77))
       go_ret
       exact ⟨_, by first | rfl | (simp [errW_none, errW_some] <;> rfl) | (simp [*, errW_none, errW_some] <;> rfl), by (with_reducible repeat (first | apply Kd.R_alloc | apply Kd.R_drewN | apply Kd.R_drew)); exact HO393.out, by repeat (first | (with_reducible first | exact HB.out | apply below_alloc | apply pw_below_drewN | apply below_drew1 | refine below_set ?_ GE361.out) | exact HB.out)⟩
      ·rw [if_neg c72] at H
       have c72b0 : (t362 == 8) = false := beq_eq_false_iff_ne.mpr c72
       have c72b1 : (t362 != 8) = true := bne_iff_ne.mpr c72
       obtain rfl := Option.some.inj H
       go_enter Try.func31, Try.ntmps31
       go_wp2_with (first | ((with_reducible refine gate_dst (N := 1) rfl ?_); refine box_event ?hg (N := 1) ?hd (cs := #[.int .u8 a0_0, .int .u8 a0_1, .int .u8 a0_2, .int .i16 a0_3, .int .i32 a0_4]) (t := 24) ?hr ?_; (case hd => rfl); (case hg => rfl); (case hr => first | (go_simp; done) | (go_simp; rfl)); intro gb361 hg w78 hbox hb; have n0_ := am (below_step (by repeat (first | exact HB.out | apply pb | apply pa | apply pd)) hb); have n1_ := am (hbox); have n2_ := am ((by rw [hg]; exact (below_size (by repeat (first | exact HB.out | apply pb | apply pa | apply pd))) : w.heap.size ≤ gb361)); have n3_ := am ((by rw [hg]; exact (below_size (by repeat (first | exact HB.out | apply pb | apply pa | apply pd))) : w.heap.size ≤ gb361)); clear HB; have HB := n0_; have BK361 := n1_; have GW361 := n2_; have GE361 := n3_; clear n0_ n1_ n2_ n3_; clear hb hbox hg; have hcz79_0 : w78.cell? ⟨gb361, 0, none⟩ = some (.int .u8 a0_0) := (blk_cell BK361.out 0).trans rfl; have hcz79_1 : w78.cell? ⟨gb361, 1, none⟩ = some (.int .u8 a0_1) := (blk_cell BK361.out 1).trans rfl; have hcz79_2 : w78.cell? ⟨gb361, 2, none⟩ = some (.int .u8 a0_2) := (blk_cell BK361.out 2).trans rfl; have hcz79_3 : w78.cell? ⟨gb361, 3, none⟩ = some (.int .i16 a0_3) := (blk_cell BK361.out 3).trans rfl; have hcz79_4 : w78.cell? ⟨gb361, 4, none⟩ = some (.int .i32 a0_4) := (blk_cell BK361.out 4).trans rfl; have hfz79_0 := blk_frozen BK361.out 0; have hfz79_1 := blk_frozen BK361.out 1; have hfz79_2 := blk_frozen BK361.out 2; have hfz79_3 := blk_frozen BK361.out 3; have hfz79_4 := blk_frozen BK361.out 4) | ((with_reducible refine gate_callee (f := 20) rfl ?_); refine goesL_ (some 5) rfl rfl Try.func20 (by kernel_rfl) rfl #[.agg #[.int .u8 a0_0, .int .u8 a0_1, .int .u8 a0_2, .int .i16 a0_3, .int .i32 a0_4]] rfl (by (try simp only [List.map_toArray, List.map_cons, List.map_nil]); first | done | rfl) ?_; (with_reducible refine (wardenref07_Kind.calls k a0_0 a0_1 a0_2 a0_3 a0_4 t362 _ A2.out).mono ?_); rintro e w80 ⟨rfl, hb⟩; refine ⟨_, rfl, ?_⟩; have n0_ := am (blk_below (g := gb361) (o := .cells #[.int .u8 a0_0, .int .u8 a0_1, .int .u8 a0_2, .int .i16 a0_3, .int .i32 a0_4] 24 (0, 0)) (by first | exact BK361.out | exact blk_drewN BK361.out _) hb); have n1_ := am (below_step (by repeat (first | exact HB.out | apply pb | apply pa | apply pd | refine below_set ?_ GE361.out)) hb); clear BK361; clear HB; have BK361 := n0_; have HB := n1_; clear n0_ n1_; (try clear hb); (try clear hb2); (try clear hk); (try clear hi)))
       go_ret
       exact ⟨_, by first | rfl | (simp [errW_none, errW_some] <;> rfl) | (simp [*, errW_none, errW_some] <;> rfl), by first | exact Kd.R_nil _ _ _ _ _ | exact Kd.N_nil _ _ _ _ _ | exact Kd.V_nil _ _ _ _ _ | exact Kd.Q_nil _ _ _ _ _ | exact Kd.S_nil _ _ _ _ _, by repeat (first | (with_reducible first | exact HB.out | apply below_alloc | apply pw_below_drewN | apply below_drew1 | refine below_set ?_ GE361.out) | exact HB.out)⟩

end Go.Proofs.Ytibghcmkmbamjaa.PI
