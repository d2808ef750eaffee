-- turned from the kit's print
import Derived.Test.YtibghcmkmbamjaaPIx0
import Derived.Test.YtibghcmkmbamjaaShort
import Derived.Test.YtibghcmkmbamjaaPIx12
import Derived.Test.YtibghcmkmbamjaaPIx15
namespace Go.Proofs.Ytibghcmkmbamjaa.PI
open Go.RowKit Go.Proofs.YtibghcmkmbamjaaW.PrintWords Go.Proofs.YtibghcmkmbamjaaW.PrintLast Go.Proofs.YtibghcmkmbamjaaW.PrintMore
attribute [local go_sem] max2_int min2_int max_two min_two max_three min_three max_four min_four   -- for this text's walks alone
set_option linter.unusedVariables false
set_option linter.unusedSimpArgs false

/-! ### wardenref07_Size: function 24 -/
def wardenref07_Size.j0 : Nat → Bool → Int → Int → Int → Int → Int → Option (Int)
 | 0, _, _, _, _, _, _ => none
 | k + 1, x15, x324000, x324001, x324002, x324003, x324004 => if x15 = true then (some 0) else (if (((Int.tdiv x324000 8) % 256) % 4) = 0 then (some 4) else (if (((Int.tdiv x324000 8) % 256) % 4) = 1 then (some 2) else (if (((Int.tdiv x324000 8) % 256) % 4) = 2 then (some 1) else (some 8))))
def wardenref07_Size.f (k : Nat) (a0_0 : Int) (a0_1 : Int) (a0_2 : Int) (a0_3 : Int) (a0_4 : Int) : Option (Int) := (wardenref07_Kind.f k a0_0 a0_1 a0_2 a0_3 a0_4).bind fun t324 => (if t324 = 2 then (wardenref07_Size.j0 k false a0_0 a0_1 a0_2 a0_3 a0_4) else (if t324 = 3 then (wardenref07_Size.j0 k false a0_0 a0_1 a0_2 a0_3 a0_4) else (wardenref07_Size.j0 k (t324 != 4) a0_0 a0_1 a0_2 a0_3 a0_4)))
theorem wardenref07_Size.mono_l : ∀ k, (∀ y0 y1 y2 y3 y4 y5, LeO (wardenref07_Size.j0 k y0 y1 y2 y3 y4 y5) (wardenref07_Size.j0 (k + 1) y0 y1 y2 y3 y4 y5))
 | 0 => fun _ _ _ _ _ _ r h => by simp [wardenref07_Size.j0] at h
 | k + 1 => by
  have ih0 := wardenref07_Size.mono_l k
  ·intro y0 y1 y2 y3 y4 y5
   unfold wardenref07_Size.j0
   repeat' first
   | (with_reducible exact ih0 _ _ _ _ _ _)
   | (with_reducible exact wardenref07_Kind.mono _ _ _ _ _ _)
   | (with_reducible exact LeO.refl _)
   | (with_reducible exact LeO.none _)
   | (with_reducible refine LeO.ite ?_ ?_)
   | (with_reducible refine LeO.bind ?_ (fun _ => ?_))
   | exact ih0 _ _ _ _ _ _
   | exact wardenref07_Kind.mono _ _ _ _ _ _
   | exact LeO.none _
   | refine LeO.ite ?_ ?_
   | refine LeO.bind ?_ (fun _ => ?_)
theorem wardenref07_Size.mono : ∀ a0 a1 a2 a3 a4 k, LeO (wardenref07_Size.f k a0 a1 a2 a3 a4) (wardenref07_Size.f (k + 1) a0 a1 a2 a3 a4) := by
 intro a0 a1 a2 a3 a4 k
 have ih0 := wardenref07_Size.mono_l k
 unfold wardenref07_Size.f
 repeat' first
   | (with_reducible exact ih0 _ _ _ _ _ _)
   | (with_reducible exact wardenref07_Kind.mono _ _ _ _ _ _)
   | (with_reducible exact LeO.refl _)
   | (with_reducible exact LeO.none _)
   | (with_reducible refine LeO.ite ?_ ?_)
   | (with_reducible refine LeO.bind ?_ (fun _ => ?_))
   | exact ih0 _ _ _ _ _ _
   | exact wardenref07_Kind.mono _ _ _ _ _ _
   | exact LeO.none _
   | refine LeO.ite ?_ ?_
   | refine LeO.bind ?_ (fun _ => ?_)
set_option maxHeartbeats 8000000 in
set_option maxRecDepth 100000 in
theorem wardenref07_Size.calls (k : Nat) (a0_0 : Int) (a0_1 : Int) (a0_2 : Int) (a0_3 : Int) (a0_4 : Int) (r : Int) (w : World) (h : wardenref07_Size.f k a0_0 a0_1 a0_2 a0_3 a0_4 = some r) :
  Calls Try.prog 24 #[.agg #[.int .u8 a0_0, .int .u8 a0_1, .int .u8 a0_2, .int .i16 a0_3, .int .i32 a0_4]] w fun e w' => e = .returned (.int .i64 r) ∧ Below w.heap.size w w' := by
 have hu24 := Try.underlying24
 have HB := am (Below.refl w.heap.size w)
 have H : ((wardenref07_Kind.f k a0_0 a0_1 a0_2 a0_3 a0_4).bind fun t324 => (if t324 = 2 then (wardenref07_Size.j0 k false a0_0 a0_1 a0_2 a0_3 a0_4) else (if t324 = 3 then (wardenref07_Size.j0 k false a0_0 a0_1 a0_2 a0_3 a0_4) else (wardenref07_Size.j0 k (t324 != 4) a0_0 a0_1 a0_2 a0_3 a0_4)))) = some r := h
 clear h
 replace H := Option.bind_eq_some_iff.mp H
 obtain ⟨t324, A20, H⟩ := H
 try dsimp only at H
 have A2 := am A20
 clear A20
 have HC3 := am H
 clear H
 go_enter Try.func24, Try.ntmps24
 go_upto_region 2 with (first | ((with_reducible refine gate_dst (N := 1) rfl ?_); refine box_event ?hg (N := 1) ?hd (cs := #[.int .u8 a0_0, .int .u8 a0_1, .int .u8 a0_2, .int .i16 a0_3, .int .i32 a0_4]) (t := 24) ?hr ?_; (case hd => rfl); (case hg => rfl); (case hr => first | (go_simp; done) | (go_simp; rfl)); intro gb323 hg w4 hbox hb; have n0_ := am (below_step (by repeat (first | exact HB.out | apply pb | apply pa | apply pd)) hb); have n1_ := am (hbox); have n2_ := am ((by rw [hg]; exact (below_size (by repeat (first | exact HB.out | apply pb | apply pa | apply pd))) : w.heap.size ≤ gb323)); have n3_ := am ((by rw [hg]; exact (below_size (by repeat (first | exact HB.out | apply pb | apply pa | apply pd))) : w.heap.size ≤ gb323)); clear HB; have HB := n0_; have BK323 := n1_; have GW323 := n2_; have GE323 := n3_; clear n0_ n1_ n2_ n3_; clear hb hbox hg; have hcz5_0 : w4.cell? ⟨gb323, 0, none⟩ = some (.int .u8 a0_0) := (blk_cell BK323.out 0).trans rfl; have hcz5_1 : w4.cell? ⟨gb323, 1, none⟩ = some (.int .u8 a0_1) := (blk_cell BK323.out 1).trans rfl; have hcz5_2 : w4.cell? ⟨gb323, 2, none⟩ = some (.int .u8 a0_2) := (blk_cell BK323.out 2).trans rfl; have hcz5_3 : w4.cell? ⟨gb323, 3, none⟩ = some (.int .i16 a0_3) := (blk_cell BK323.out 3).trans rfl; have hcz5_4 : w4.cell? ⟨gb323, 4, none⟩ = some (.int .i32 a0_4) := (blk_cell BK323.out 4).trans rfl; have hfz5_0 := blk_frozen BK323.out 0; have hfz5_1 := blk_frozen BK323.out 1; have hfz5_2 := blk_frozen BK323.out 2; have hfz5_3 := blk_frozen BK323.out 3; have hfz5_4 := blk_frozen BK323.out 4) | ((with_reducible refine gate_callee (f := 20) rfl ?_); refine goesL_ (some 5) rfl rfl Try.func20 (by kernel_rfl) rfl #[.agg #[.int .u8 a0_0, .int .u8 a0_1, .int .u8 a0_2, .int .i16 a0_3, .int .i32 a0_4]] rfl (by (try simp only [List.map_toArray, List.map_cons, List.map_nil]); first | done | rfl) ?_; (with_reducible refine (wardenref07_Kind.calls k a0_0 a0_1 a0_2 a0_3 a0_4 t324 _ A2.out).mono ?_); rintro e w6 ⟨rfl, hb⟩; refine ⟨_, rfl, ?_⟩; have n0_ := am (blk_below (g := gb323) (o := .cells #[.int .u8 a0_0, .int .u8 a0_1, .int .u8 a0_2, .int .i16 a0_3, .int .i32 a0_4] 24 (0, 0)) (by first | exact BK323.out | exact blk_drewN BK323.out _) hb); have n1_ := am (below_step (by repeat (first | exact HB.out | apply pb | apply pa | apply pd | refine below_set ?_ GE323.out)) hb); clear BK323; clear HB; have BK323 := n0_; have HB := n1_; clear n0_ n1_; (try clear hb); (try clear hb2); (try clear hk); (try clear hi)))
 (try simp only [Act.put, List.setIfInBounds_toArray, List.set_cons_zero, List.set_cons_succ])
 go_cut [15] (fun v15 wc => ∃ (kq : Nat) (x15_2 : Bool), v15 = .bool x15_2 ∧ Aside0 (wardenref07_Size.j0 kq x15_2 a0_0 a0_1 a0_2 a0_3 a0_4 = some r) ∧ Aside0 (kq ≤ k) ∧ Aside0 (wc.heap[gb323]? = some (.cells #[.int .u8 a0_0, .int .u8 a0_1, .int .u8 a0_2, .int .i16 a0_3, .int .i32 a0_4] 24 (0, 0))) ∧ Aside0 (Below w.heap.size w wc))
 case first =>
  have H := HC3.out
  clear HC3
  by_cases c7 : t324 = 2
  ·rw [if_pos c7] at H
   have c7b0 : (t324 == 2) = true := beq_iff_eq.mpr c7
   have c7b1 : (t324 != 2) = false := bne_eq_false_iff_eq.mpr c7
   clear c7
   (first | rw [c7b0] | (simp only [i64_w, i32_w]; rw [c7b0]) | skip)
   have H' := am H
   clear H
   go_wp2
   go_meet
   case rel => exact ⟨_, (false), (by first | rfl | (simp; done) | (simp [*]; done)), H', ⟨by first | omega | exact Nat.le_refl _⟩, ⟨by (with_reducible repeat (first | refine blk_drewN ?_ _ | refine blk_drew ?_ | refine blk_alloc ?_ _)); exact BK323.out⟩, ⟨by repeat (first | (with_reducible first | exact HB.out | apply below_alloc | apply pw_below_drewN | apply below_drew1 | refine below_set ?_ GE323.out) | exact HB.out)⟩⟩
  ·rw [if_neg c7] at H
   have c7b0 : (t324 == 2) = false := beq_eq_false_iff_ne.mpr c7
   have c7b1 : (t324 != 2) = true := bne_iff_ne.mpr c7
   (first | rw [c7b0] | (simp only [i64_w, i32_w]; rw [c7b0]) | skip)
   by_cases c8 : t324 = 3
   ·rw [if_pos c8] at H
    have c8b0 : (t324 == 3) = true := beq_iff_eq.mpr c8
    have c8b1 : (t324 != 3) = false := bne_eq_false_iff_eq.mpr c8
    clear c8
    have H' := am H
    clear H
    go_wp2
    go_meet
    case rel => exact ⟨_, (false), (by first | rfl | (simp; done) | (simp [*]; done)), H', ⟨by first | omega | exact Nat.le_refl _⟩, ⟨by (with_reducible repeat (first | refine blk_drewN ?_ _ | refine blk_drew ?_ | refine blk_alloc ?_ _)); exact BK323.out⟩, ⟨by repeat (first | (with_reducible first | exact HB.out | apply below_alloc | apply pw_below_drewN | apply below_drew1 | refine below_set ?_ GE323.out) | exact HB.out)⟩⟩
   ·rw [if_neg c8] at H
    have c8b0 : (t324 == 3) = false := beq_eq_false_iff_ne.mpr c8
    have c8b1 : (t324 != 3) = true := bne_iff_ne.mpr c8
    have H' := am H
    clear H
    go_wp2
    go_meet
    case rel => exact ⟨_, ((t324 != 4)), (by first | rfl | (simp; done) | (simp [*]; done)), H', ⟨by first | omega | exact Nat.le_refl _⟩, ⟨by (with_reducible repeat (first | refine blk_drewN ?_ _ | refine blk_drew ?_ | refine blk_alloc ?_ _)); exact BK323.out⟩, ⟨by repeat (first | (with_reducible first | exact HB.out | apply below_alloc | apply pw_below_drewN | apply below_drew1 | refine below_set ?_ GE323.out) | exact HB.out)⟩⟩
 case rest =>
  clear HC3
  try clear c2
  try clear p2
  try clear c7
  try clear c7b0
  try clear c7b1
  try clear c8
  try clear c8b0
  try clear c8b1
  try clear hcz5_0
  try clear hcz5_1
  try clear hcz5_2
  try clear hcz5_3
  try clear hcz5_4
  try clear hfz5_0
  try clear hfz5_1
  try clear hfz5_2
  try clear hfz5_3
  try clear hfz5_4
  obtain ⟨kq, x15_2, rfl, HA, HJ2, BK323, HB⟩ := hcut
  cases kq with
  | zero => exact absurd HA.out (by simp [wardenref07_Size.j0])
  | succ kj2 =>
   have H := HA.out
   clear HA
   simp only [wardenref07_Size.j0] at H
   by_cases c9 : x15_2 = true
   ·subst c9
    have H1 : (some 0) = some r := by rw [if_pos rfl] at H; exact H
    clear H
    have H := H1
    clear H1
    obtain rfl := Option.some.inj H
    go_wp2
    go_ret
    exact ⟨by first | rfl | (simp [errW_none, errW_some] <;> rfl) | (simp [*, errW_none, errW_some] <;> rfl), by repeat (first | (with_reducible first | exact HB.out | apply below_alloc | apply pw_below_drewN | apply below_drew1 | refine below_set ?_ GE323.out) | exact HB.out)⟩
   ·replace c9 := Bool.eq_false_iff.mpr c9
    subst c9
    have H1 : (if (((Int.tdiv a0_0 8) % 256) % 4) = 0 then (some 4) else (if (((Int.tdiv a0_0 8) % 256) % 4) = 1 then (some 2) else (if (((Int.tdiv a0_0 8) % 256) % 4) = 2 then (some 1) else (some 8)))) = some r := by rw [if_neg (show ¬ (false = true) by decide)] at H; exact H
    clear H
    have H := H1
    clear H1
    by_cases c10 : (((Int.tdiv a0_0 8) % 256) % 4) = 0
    ·rw [if_pos c10] at H
     have c10b0 : ((((Int.tdiv a0_0 8) % 256) % 4) == 0) = true := beq_iff_eq.mpr c10
     have c10b1 : ((((Int.tdiv a0_0 8) % 256) % 4) != 0) = false := bne_eq_false_iff_eq.mpr c10
     clear c10
     obtain rfl := Option.some.inj H
     have hcz11_0 : wc.cell? ⟨gb323, 0, none⟩ = some (.int .u8 a0_0) := (blk_cell BK323.out 0).trans rfl
     have hcz11_1 : wc.cell? ⟨gb323, 1, none⟩ = some (.int .u8 a0_1) := (blk_cell BK323.out 1).trans rfl
     have hcz11_2 : wc.cell? ⟨gb323, 2, none⟩ = some (.int .u8 a0_2) := (blk_cell BK323.out 2).trans rfl
     have hcz11_3 : wc.cell? ⟨gb323, 3, none⟩ = some (.int .i16 a0_3) := (blk_cell BK323.out 3).trans rfl
     have hcz11_4 : wc.cell? ⟨gb323, 4, none⟩ = some (.int .i32 a0_4) := (blk_cell BK323.out 4).trans rfl
     have hfz11_0 := blk_frozen BK323.out 0
     have hfz11_1 := blk_frozen BK323.out 1
     have hfz11_2 := blk_frozen BK323.out 2
     have hfz11_3 := blk_frozen BK323.out 3
     have hfz11_4 := blk_frozen BK323.out 4
     go_wp2
     go_ret
     exact ⟨by first | rfl | (simp [errW_none, errW_some] <;> rfl) | (simp [*, errW_none, errW_some] <;> rfl), by repeat (first | (with_reducible first | exact HB.out | apply below_alloc | apply pw_below_drewN | apply below_drew1 | refine below_set ?_ GE323.out) | exact HB.out)⟩
    ·rw [if_neg c10] at H
     have c10b0 : ((((Int.tdiv a0_0 8) % 256) % 4) == 0) = false := beq_eq_false_iff_ne.mpr c10
     have c10b1 : ((((Int.tdiv a0_0 8) % 256) % 4) != 0) = true := bne_iff_ne.mpr c10
     by_cases c12 : (((Int.tdiv a0_0 8) % 256) % 4) = 1
     ·rw [if_pos c12] at H
      have c12b0 : ((((Int.tdiv a0_0 8) % 256) % 4) == 1) = true := beq_iff_eq.mpr c12
      have c12b1 : ((((Int.tdiv a0_0 8) % 256) % 4) != 1) = false := bne_eq_false_iff_eq.mpr c12
      clear c12
      obtain rfl := Option.some.inj H
      have hcz13_0 : wc.cell? ⟨gb323, 0, none⟩ = some (.int .u8 a0_0) := (blk_cell BK323.out 0).trans rfl
      have hcz13_1 : wc.cell? ⟨gb323, 1, none⟩ = some (.int .u8 a0_1) := (blk_cell BK323.out 1).trans rfl
      have hcz13_2 : wc.cell? ⟨gb323, 2, none⟩ = some (.int .u8 a0_2) := (blk_cell BK323.out 2).trans rfl
      have hcz13_3 : wc.cell? ⟨gb323, 3, none⟩ = some (.int .i16 a0_3) := (blk_cell BK323.out 3).trans rfl
      have hcz13_4 : wc.cell? ⟨gb323, 4, none⟩ = some (.int .i32 a0_4) := (blk_cell BK323.out 4).trans rfl
      have hfz13_0 := blk_frozen BK323.out 0
      have hfz13_1 := blk_frozen BK323.out 1
      have hfz13_2 := blk_frozen BK323.out 2
      have hfz13_3 := blk_frozen BK323.out 3
      have hfz13_4 := blk_frozen BK323.out 4
      go_wp2
      go_ret
      exact ⟨by first | rfl | (simp [errW_none, errW_some] <;> rfl) | (simp [*, errW_none, errW_some] <;> rfl), by repeat (first | (with_reducible first | exact HB.out | apply below_alloc | apply pw_below_drewN | apply below_drew1 | refine below_set ?_ GE323.out) | exact HB.out)⟩
     ·rw [if_neg c12] at H
      have c12b0 : ((((Int.tdiv a0_0 8) % 256) % 4) == 1) = false := beq_eq_false_iff_ne.mpr c12
      have c12b1 : ((((Int.tdiv a0_0 8) % 256) % 4) != 1) = true := bne_iff_ne.mpr c12
      by_cases c14 : (((Int.tdiv a0_0 8) % 256) % 4) = 2
      ·rw [if_pos c14] at H
       have c14b0 : ((((Int.tdiv a0_0 8) % 256) % 4) == 2) = true := beq_iff_eq.mpr c14
       have c14b1 : ((((Int.tdiv a0_0 8) % 256) % 4) != 2) = false := bne_eq_false_iff_eq.mpr c14
       clear c14
       obtain rfl := Option.some.inj H
       have hcz15_0 : wc.cell? ⟨gb323, 0, none⟩ = some (.int .u8 a0_0) := (blk_cell BK323.out 0).trans rfl
       have hcz15_1 : wc.cell? ⟨gb323, 1, none⟩ = some (.int .u8 a0_1) := (blk_cell BK323.out 1).trans rfl
       have hcz15_2 : wc.cell? ⟨gb323, 2, none⟩ = some (.int .u8 a0_2) := (blk_cell BK323.out 2).trans rfl
       have hcz15_3 : wc.cell? ⟨gb323, 3, none⟩ = some (.int .i16 a0_3) := (blk_cell BK323.out 3).trans rfl
       have hcz15_4 : wc.cell? ⟨gb323, 4, none⟩ = some (.int .i32 a0_4) := (blk_cell BK323.out 4).trans rfl
       have hfz15_0 := blk_frozen BK323.out 0
       have hfz15_1 := blk_frozen BK323.out 1
       have hfz15_2 := blk_frozen BK323.out 2
       have hfz15_3 := blk_frozen BK323.out 3
       have hfz15_4 := blk_frozen BK323.out 4
       go_wp2
       go_ret
       exact ⟨by first | rfl | (simp [errW_none, errW_some] <;> rfl) | (simp [*, errW_none, errW_some] <;> rfl), by repeat (first | (with_reducible first | exact HB.out | apply below_alloc | apply pw_below_drewN | apply below_drew1 | refine below_set ?_ GE323.out) | exact HB.out)⟩
      ·rw [if_neg c14] at H
       have c14b0 : ((((Int.tdiv a0_0 8) % 256) % 4) == 2) = false := beq_eq_false_iff_ne.mpr c14
       have c14b1 : ((((Int.tdiv a0_0 8) % 256) % 4) != 2) = true := bne_iff_ne.mpr c14
       obtain rfl := Option.some.inj H
       have hcz16_0 : wc.cell? ⟨gb323, 0, none⟩ = some (.int .u8 a0_0) := (blk_cell BK323.out 0).trans rfl
       have hcz16_1 : wc.cell? ⟨gb323, 1, none⟩ = some (.int .u8 a0_1) := (blk_cell BK323.out 1).trans rfl
       have hcz16_2 : wc.cell? ⟨gb323, 2, none⟩ = some (.int .u8 a0_2) := (blk_cell BK323.out 2).trans rfl
       have hcz16_3 : wc.cell? ⟨gb323, 3, none⟩ = some (.int .i16 a0_3) := (blk_cell BK323.out 3).trans rfl
       have hcz16_4 : wc.cell? ⟨gb323, 4, none⟩ = some (.int .i32 a0_4) := (blk_cell BK323.out 4).trans rfl
       have hfz16_0 := blk_frozen BK323.out 0
       have hfz16_1 := blk_frozen BK323.out 1
       have hfz16_2 := blk_frozen BK323.out 2
       have hfz16_3 := blk_frozen BK323.out 3
       have hfz16_4 := blk_frozen BK323.out 4
       go_wp2
       go_ret
       exact ⟨by first | rfl | (simp [errW_none, errW_some] <;> rfl) | (simp [*, errW_none, errW_some] <;> rfl), by repeat (first | (with_reducible first | exact HB.out | apply below_alloc | apply pw_below_drewN | apply below_drew1 | refine below_set ?_ GE323.out) | exact HB.out)⟩

/-! ### wardenref07_Wide: function 26 -/
def wardenref07_Wide.f (k : Nat) (a0_0 : Int) (a0_1 : Int) (a0_2 : Int) (a0_3 : Int) (a0_4 : Int) : Option (Bool) := (wardenref07_Kind.f k a0_0 a0_1 a0_2 a0_3 a0_4).bind fun t326 => (if t326 = 1 then ((wardenref07_class.f a0_0 a0_1 a0_2 a0_3 a0_4).bind fun t327 => (if t327 = 7 then (some true) else (if t326 = 5 then ((wardenref07_class.f a0_0 a0_1 a0_2 a0_3 a0_4).bind fun t328 => (some (t328 == 5))) else (some false)))) else (if t326 = 5 then ((wardenref07_class.f a0_0 a0_1 a0_2 a0_3 a0_4).bind fun t329 => (some (t329 == 5))) else (some false)))
theorem wardenref07_Wide.mono : ∀ a0 a1 a2 a3 a4 k, LeO (wardenref07_Wide.f k a0 a1 a2 a3 a4) (wardenref07_Wide.f (k + 1) a0 a1 a2 a3 a4) := by
 intro a0 a1 a2 a3 a4 k
 unfold wardenref07_Wide.f
 repeat' first
   | (with_reducible exact wardenref07_Kind.mono _ _ _ _ _ _)
   | (with_reducible exact LeO.refl _)
   | (with_reducible exact LeO.none _)
   | (with_reducible refine LeO.ite ?_ ?_)
   | (with_reducible refine LeO.bind ?_ (fun _ => ?_))
   | exact wardenref07_Kind.mono _ _ _ _ _ _
   | exact LeO.none _
   | refine LeO.ite ?_ ?_
   | refine LeO.bind ?_ (fun _ => ?_)
set_option maxHeartbeats 8000000 in
set_option maxRecDepth 100000 in
theorem wardenref07_Wide.calls (k : Nat) (a0_0 : Int) (a0_1 : Int) (a0_2 : Int) (a0_3 : Int) (a0_4 : Int) (r : Bool) (w : World) (h : wardenref07_Wide.f k a0_0 a0_1 a0_2 a0_3 a0_4 = some r) :
  Calls Try.prog 26 #[.agg #[.int .u8 a0_0, .int .u8 a0_1, .int .u8 a0_2, .int .i16 a0_3, .int .i32 a0_4]] w fun e w' => e = .returned (.bool r) ∧ Below w.heap.size w w' := by
 have hu24 := Try.underlying24
 have HB := am (Below.refl w.heap.size w)
 have H : ((wardenref07_Kind.f k a0_0 a0_1 a0_2 a0_3 a0_4).bind fun t326 => (if t326 = 1 then ((wardenref07_class.f a0_0 a0_1 a0_2 a0_3 a0_4).bind fun t327 => (if t327 = 7 then (some true) else (if t326 = 5 then ((wardenref07_class.f a0_0 a0_1 a0_2 a0_3 a0_4).bind fun t328 => (some (t328 == 5))) else (some false)))) else (if t326 = 5 then ((wardenref07_class.f a0_0 a0_1 a0_2 a0_3 a0_4).bind fun t329 => (some (t329 == 5))) else (some false)))) = some r := h
 clear h
 replace H := Option.bind_eq_some_iff.mp H
 obtain ⟨t326, A20, H⟩ := H
 try dsimp only at H
 have A2 := am A20
 clear A20
 by_cases c3 : t326 = 1
 ·rw [if_pos c3] at H
  have c3b0 : (t326 == 1) = true := beq_iff_eq.mpr c3
  have c3b1 : (t326 != 1) = false := bne_eq_false_iff_eq.mpr c3
  clear c3
  replace H := Option.bind_eq_some_iff.mp H
  obtain ⟨t327, A40, H⟩ := H
  try dsimp only at H
  have A4 := am A40
  clear A40
  by_cases c5 : t327 = 7
  ·rw [if_pos c5] at H
   have c5b0 : (t327 == 7) = true := beq_iff_eq.mpr c5
   have c5b1 : (t327 != 7) = false := bne_eq_false_iff_eq.mpr c5
   clear c5
   obtain rfl := Option.some.inj H
   go_enter Try.func26, Try.ntmps26
   go_wp2_with (first | ((with_reducible refine gate_dst (N := 1) rfl ?_); refine box_event ?hg (N := 1) ?hd (cs := #[.int .u8 a0_0, .int .u8 a0_1, .int .u8 a0_2, .int .i16 a0_3, .int .i32 a0_4]) (t := 24) ?hr ?_; (case hd => rfl); (case hg => rfl); (case hr => first | (go_simp; done) | (go_simp; rfl)); intro gb325 hg w6 hbox hb; have n0_ := am (below_step (by repeat (first | exact HB.out | apply pb | apply pa | apply pd)) hb); have n1_ := am (hbox); have n2_ := am ((by rw [hg]; exact (below_size (by repeat (first | exact HB.out | apply pb | apply pa | apply pd))) : w.heap.size ≤ gb325)); have n3_ := am ((by rw [hg]; exact (below_size (by repeat (first | exact HB.out | apply pb | apply pa | apply pd))) : w.heap.size ≤ gb325)); clear HB; have HB := n0_; have BK325 := n1_; have GW325 := n2_; have GE325 := n3_; clear n0_ n1_ n2_ n3_; clear hb hbox hg; have hcz7_0 : w6.cell? ⟨gb325, 0, none⟩ = some (.int .u8 a0_0) := (blk_cell BK325.out 0).trans rfl; have hcz7_1 : w6.cell? ⟨gb325, 1, none⟩ = some (.int .u8 a0_1) := (blk_cell BK325.out 1).trans rfl; have hcz7_2 : w6.cell? ⟨gb325, 2, none⟩ = some (.int .u8 a0_2) := (blk_cell BK325.out 2).trans rfl; have hcz7_3 : w6.cell? ⟨gb325, 3, none⟩ = some (.int .i16 a0_3) := (blk_cell BK325.out 3).trans rfl; have hcz7_4 : w6.cell? ⟨gb325, 4, none⟩ = some (.int .i32 a0_4) := (blk_cell BK325.out 4).trans rfl; have hfz7_0 := blk_frozen BK325.out 0; have hfz7_1 := blk_frozen BK325.out 1; have hfz7_2 := blk_frozen BK325.out 2; have hfz7_3 := blk_frozen BK325.out 3; have hfz7_4 := blk_frozen BK325.out 4) | ((with_reducible refine gate_callee (f := 20) rfl ?_); refine goesL_ (some 5) rfl rfl Try.func20 (by kernel_rfl) rfl #[.agg #[.int .u8 a0_0, .int .u8 a0_1, .int .u8 a0_2, .int .i16 a0_3, .int .i32 a0_4]] rfl (by (try simp only [List.map_toArray, List.map_cons, List.map_nil]); first | done | rfl) ?_; (with_reducible refine (wardenref07_Kind.calls k a0_0 a0_1 a0_2 a0_3 a0_4 t326 _ A2.out).mono ?_); rintro e w8 ⟨rfl, hb⟩; refine ⟨_, rfl, ?_⟩; have n0_ := am (blk_below (g := gb325) (o := .cells #[.int .u8 a0_0, .int .u8 a0_1, .int .u8 a0_2, .int .i16 a0_3, .int .i32 a0_4] 24 (0, 0)) (by first | exact BK325.out | exact blk_drewN BK325.out _) hb); have n1_ := am (below_step (by repeat (first | exact HB.out | apply pb | apply pa | apply pd | refine below_set ?_ GE325.out)) hb); clear BK325; clear HB; have BK325 := n0_; have HB := n1_; clear n0_ n1_; (try clear hb); (try clear hb2); (try clear hk); (try clear hi); have hcz9_0 : w8.cell? ⟨gb325, 0, none⟩ = some (.int .u8 a0_0) := (blk_cell BK325.out 0).trans rfl; have hcz9_1 : w8.cell? ⟨gb325, 1, none⟩ = some (.int .u8 a0_1) := (blk_cell BK325.out 1).trans rfl; have hcz9_2 : w8.cell? ⟨gb325, 2, none⟩ = some (.int .u8 a0_2) := (blk_cell BK325.out 2).trans rfl; have hcz9_3 : w8.cell? ⟨gb325, 3, none⟩ = some (.int .i16 a0_3) := (blk_cell BK325.out 3).trans rfl; have hcz9_4 : w8.cell? ⟨gb325, 4, none⟩ = some (.int .i32 a0_4) := (blk_cell BK325.out 4).trans rfl; have hfz9_0 := blk_frozen BK325.out 0; have hfz9_1 := blk_frozen BK325.out 1; have hfz9_2 := blk_frozen BK325.out 2; have hfz9_3 := blk_frozen BK325.out 3; have hfz9_4 := blk_frozen BK325.out 4) | (go_at_call 54; (with_reducible refine (wardenref07_class.calls a0_0 a0_1 a0_2 a0_3 a0_4 t327 _ A4.out).mono ?_); rintro e w10 ⟨rfl, hb⟩; have n0_ := am (blk_below (g := gb325) (o := .cells #[.int .u8 a0_0, .int .u8 a0_1, .int .u8 a0_2, .int .i16 a0_3, .int .i32 a0_4] 24 (0, 0)) (by first | exact BK325.out | exact blk_drewN BK325.out _) hb); have n1_ := am (below_step (by repeat (first | exact HB.out | apply pb | apply pa | apply pd | refine below_set ?_ GE325.out)) hb); clear BK325; clear HB; have BK325 := n0_; have HB := n1_; clear n0_ n1_; (try clear hb); (try clear hb2); (try clear hk); (try clear hi)))
   go_ret
   exact ⟨by first | rfl | (simp [errW_none, errW_some] <;> rfl) | (simp [*, errW_none, errW_some] <;> rfl), by repeat (first | (with_reducible first | exact HB.out | apply below_alloc | apply pw_below_drewN | apply below_drew1 | refine below_set ?_ GE325.out) | exact HB.out)⟩
  ·rw [if_neg c5] at H
   have c5b0 : (t327 == 7) = false := beq_eq_false_iff_ne.mpr c5
   have c5b1 : (t327 != 7) = true := bne_iff_ne.mpr c5
   by_cases c11 : t326 = 5
   ·rw [if_pos c11] at H
    have c11b0 : (t326 == 5) = true := beq_iff_eq.mpr c11
    have c11b1 : (t326 != 5) = false := bne_eq_false_iff_eq.mpr c11
    clear c11
    replace H := Option.bind_eq_some_iff.mp H
    obtain ⟨t328, A120, H⟩ := H
    try dsimp only at H
    obtain rfl : t327 = t328 := Option.some.inj (A4.out.symm.trans A120)
    have A12 := am A120
    clear A120
    obtain rfl := Option.some.inj H
    go_enter Try.func26, Try.ntmps26
    go_wp2_with (first | ((with_reducible refine gate_dst (N := 1) rfl ?_); refine box_event ?hg (N := 1) ?hd (cs := #[.int .u8 a0_0, .int .u8 a0_1, .int .u8 a0_2, .int .i16 a0_3, .int .i32 a0_4]) (t := 24) ?hr ?_; (case hd => rfl); (case hg => rfl); (case hr => first | (go_simp; done) | (go_simp; rfl)); intro gb325 hg w13 hbox hb; have n0_ := am (below_step (by repeat (first | exact HB.out | apply pb | apply pa | apply pd)) hb); have n1_ := am (hbox); have n2_ := am ((by rw [hg]; exact (below_size (by repeat (first | exact HB.out | apply pb | apply pa | apply pd))) : w.heap.size ≤ gb325)); have n3_ := am ((by rw [hg]; exact (below_size (by repeat (first | exact HB.out | apply pb | apply pa | apply pd))) : w.heap.size ≤ gb325)); clear HB; have HB := n0_; have BK325 := n1_; have GW325 := n2_; have GE325 := n3_; clear n0_ n1_ n2_ n3_; clear hb hbox hg; have hcz14_0 : w13.cell? ⟨gb325, 0, none⟩ = some (.int .u8 a0_0) := (blk_cell BK325.out 0).trans rfl; have hcz14_1 : w13.cell? ⟨gb325, 1, none⟩ = some (.int .u8 a0_1) := (blk_cell BK325.out 1).trans rfl; have hcz14_2 : w13.cell? ⟨gb325, 2, none⟩ = some (.int .u8 a0_2) := (blk_cell BK325.out 2).trans rfl; have hcz14_3 : w13.cell? ⟨gb325, 3, none⟩ = some (.int .i16 a0_3) := (blk_cell BK325.out 3).trans rfl; have hcz14_4 : w13.cell? ⟨gb325, 4, none⟩ = some (.int .i32 a0_4) := (blk_cell BK325.out 4).trans rfl; have hfz14_0 := blk_frozen BK325.out 0; have hfz14_1 := blk_frozen BK325.out 1; have hfz14_2 := blk_frozen BK325.out 2; have hfz14_3 := blk_frozen BK325.out 3; have hfz14_4 := blk_frozen BK325.out 4) | ((with_reducible refine gate_callee (f := 20) rfl ?_); refine goesL_ (some 5) rfl rfl Try.func20 (by kernel_rfl) rfl #[.agg #[.int .u8 a0_0, .int .u8 a0_1, .int .u8 a0_2, .int .i16 a0_3, .int .i32 a0_4]] rfl (by (try simp only [List.map_toArray, List.map_cons, List.map_nil]); first | done | rfl) ?_; (with_reducible refine (wardenref07_Kind.calls k a0_0 a0_1 a0_2 a0_3 a0_4 t326 _ A2.out).mono ?_); rintro e w15 ⟨rfl, hb⟩; refine ⟨_, rfl, ?_⟩; have n0_ := am (blk_below (g := gb325) (o := .cells #[.int .u8 a0_0, .int .u8 a0_1, .int .u8 a0_2, .int .i16 a0_3, .int .i32 a0_4] 24 (0, 0)) (by first | exact BK325.out | exact blk_drewN BK325.out _) hb); have n1_ := am (below_step (by repeat (first | exact HB.out | apply pb | apply pa | apply pd | refine below_set ?_ GE325.out)) hb); clear BK325; clear HB; have BK325 := n0_; have HB := n1_; clear n0_ n1_; (try clear hb); (try clear hb2); (try clear hk); (try clear hi); have hcz16_0 : w15.cell? ⟨gb325, 0, none⟩ = some (.int .u8 a0_0) := (blk_cell BK325.out 0).trans rfl; have hcz16_1 : w15.cell? ⟨gb325, 1, none⟩ = some (.int .u8 a0_1) := (blk_cell BK325.out 1).trans rfl; have hcz16_2 : w15.cell? ⟨gb325, 2, none⟩ = some (.int .u8 a0_2) := (blk_cell BK325.out 2).trans rfl; have hcz16_3 : w15.cell? ⟨gb325, 3, none⟩ = some (.int .i16 a0_3) := (blk_cell BK325.out 3).trans rfl; have hcz16_4 : w15.cell? ⟨gb325, 4, none⟩ = some (.int .i32 a0_4) := (blk_cell BK325.out 4).trans rfl; have hfz16_0 := blk_frozen BK325.out 0; have hfz16_1 := blk_frozen BK325.out 1; have hfz16_2 := blk_frozen BK325.out 2; have hfz16_3 := blk_frozen BK325.out 3; have hfz16_4 := blk_frozen BK325.out 4) | (go_at_call 54; (with_reducible refine (wardenref07_class.calls a0_0 a0_1 a0_2 a0_3 a0_4 t327 _ A4.out).mono ?_); rintro e w17 ⟨rfl, hb⟩; have n0_ := am (blk_below (g := gb325) (o := .cells #[.int .u8 a0_0, .int .u8 a0_1, .int .u8 a0_2, .int .i16 a0_3, .int .i32 a0_4] 24 (0, 0)) (by first | exact BK325.out | exact blk_drewN BK325.out _) hb); have n1_ := am (below_step (by repeat (first | exact HB.out | apply pb | apply pa | apply pd | refine below_set ?_ GE325.out)) hb); clear BK325; clear HB; have BK325 := n0_; have HB := n1_; clear n0_ n1_; (try clear hb); (try clear hb2); (try clear hk); (try clear hi); have hcz18_0 : w17.cell? ⟨gb325, 0, none⟩ = some (.int .u8 a0_0) := (blk_cell BK325.out 0).trans rfl; have hcz18_1 : w17.cell? ⟨gb325, 1, none⟩ = some (.int .u8 a0_1) := (blk_cell BK325.out 1).trans rfl; have hcz18_2 : w17.cell? ⟨gb325, 2, none⟩ = some (.int .u8 a0_2) := (blk_cell BK325.out 2).trans rfl; have hcz18_3 : w17.cell? ⟨gb325, 3, none⟩ = some (.int .i16 a0_3) := (blk_cell BK325.out 3).trans rfl; have hcz18_4 : w17.cell? ⟨gb325, 4, none⟩ = some (.int .i32 a0_4) := (blk_cell BK325.out 4).trans rfl; have hfz18_0 := blk_frozen BK325.out 0; have hfz18_1 := blk_frozen BK325.out 1; have hfz18_2 := blk_frozen BK325.out 2; have hfz18_3 := blk_frozen BK325.out 3; have hfz18_4 := blk_frozen BK325.out 4) | (go_at_call 54; (with_reducible refine (wardenref07_class.calls a0_0 a0_1 a0_2 a0_3 a0_4 t328 _ A12.out).mono ?_); rintro e w19 ⟨rfl, hb⟩; have n0_ := am (blk_below (g := gb325) (o := .cells #[.int .u8 a0_0, .int .u8 a0_1, .int .u8 a0_2, .int .i16 a0_3, .int .i32 a0_4] 24 (0, 0)) (by first | exact BK325.out | exact blk_drewN BK325.out _) hb); have n1_ := am (below_step (by repeat (first | exact HB.out | apply pb | apply pa | apply pd | refine below_set ?_ GE325.out)) hb); clear BK325; clear HB; have BK325 := n0_; have HB := n1_; clear n0_ n1_; (try clear hb); (try clear hb2); (try clear hk); (try clear hi)))
    go_ret
    exact ⟨by first | rfl | (simp [errW_none, errW_some] <;> rfl) | (simp [*, errW_none, errW_some] <;> rfl), by repeat (first | (with_reducible first | exact HB.out | apply below_alloc | apply pw_below_drewN | apply below_drew1 | refine below_set ?_ GE325.out) | exact HB.out)⟩
   ·rw [if_neg c11] at H
    have c11b0 : (t326 == 5) = false := beq_eq_false_iff_ne.mpr c11
    have c11b1 : (t326 != 5) = true := bne_iff_ne.mpr c11
    obtain rfl := Option.some.inj H
    go_enter Try.func26, Try.ntmps26
    go_wp2_with (first | ((with_reducible refine gate_dst (N := 1) rfl ?_); refine box_event ?hg (N := 1) ?hd (cs := #[.int .u8 a0_0, .int .u8 a0_1, .int .u8 a0_2, .int .i16 a0_3, .int .i32 a0_4]) (t := 24) ?hr ?_; (case hd => rfl); (case hg => rfl); (case hr => first | (go_simp; done) | (go_simp; rfl)); intro gb325 hg w20 hbox hb; have n0_ := am (below_step (by repeat (first | exact HB.out | apply pb | apply pa | apply pd)) hb); have n1_ := am (hbox); have n2_ := am ((by rw [hg]; exact (below_size (by repeat (first | exact HB.out | apply pb | apply pa | apply pd))) : w.heap.size ≤ gb325)); have n3_ := am ((by rw [hg]; exact (below_size (by repeat (first | exact HB.out | apply pb | apply pa | apply pd))) : w.heap.size ≤ gb325)); clear HB; have HB := n0_; have BK325 := n1_; have GW325 := n2_; have GE325 := n3_; clear n0_ n1_ n2_ n3_; clear hb hbox hg; have hcz21_0 : w20.cell? ⟨gb325, 0, none⟩ = some (.int .u8 a0_0) := (blk_cell BK325.out 0).trans rfl; have hcz21_1 : w20.cell? ⟨gb325, 1, none⟩ = some (.int .u8 a0_1) := (blk_cell BK325.out 1).trans rfl; have hcz21_2 : w20.cell? ⟨gb325, 2, none⟩ = some (.int .u8 a0_2) := (blk_cell BK325.out 2).trans rfl; have hcz21_3 : w20.cell? ⟨gb325, 3, none⟩ = some (.int .i16 a0_3) := (blk_cell BK325.out 3).trans rfl; have hcz21_4 : w20.cell? ⟨gb325, 4, none⟩ = some (.int .i32 a0_4) := (blk_cell BK325.out 4).trans rfl; have hfz21_0 := blk_frozen BK325.out 0; have hfz21_1 := blk_frozen BK325.out 1; have hfz21_2 := blk_frozen BK325.out 2; have hfz21_3 := blk_frozen BK325.out 3; have hfz21_4 := blk_frozen BK325.out 4) | ((with_reducible refine gate_callee (f := 20) rfl ?_); refine goesL_ (some 5) rfl rfl Try.func20 (by kernel_rfl) rfl #[.agg #[.int .u8 a0_0, .int .u8 a0_1, .int .u8 a0_2, .int .i16 a0_3, .int .i32 a0_4]] rfl (by (try simp only [List.map_toArray, List.map_cons, List.map_nil]); first | done | rfl) ?_; (with_reducible refine (wardenref07_Kind.calls k a0_0 a0_1 a0_2 a0_3 a0_4 t326 _ A2.out).mono ?_); rintro e w22 ⟨rfl, hb⟩; refine ⟨_, rfl, ?_⟩; have n0_ := am (blk_below (g := gb325) (o := .cells #[.int .u8 a0_0, .int .u8 a0_1, .int .u8 a0_2, .int .i16 a0_3, .int .i32 a0_4] 24 (0, 0)) (by first | exact BK325.out | exact blk_drewN BK325.out _) hb); have n1_ := am (below_step (by repeat (first | exact HB.out | apply pb | apply pa | apply pd | refine below_set ?_ GE325.out)) hb); clear BK325; clear HB; have BK325 := n0_; have HB := n1_; clear n0_ n1_; (try clear hb); (try clear hb2); (try clear hk); (try clear hi); have hcz23_0 : w22.cell? ⟨gb325, 0, none⟩ = some (.int .u8 a0_0) := (blk_cell BK325.out 0).trans rfl; have hcz23_1 : w22.cell? ⟨gb325, 1, none⟩ = some (.int .u8 a0_1) := (blk_cell BK325.out 1).trans rfl; have hcz23_2 : w22.cell? ⟨gb325, 2, none⟩ = some (.int .u8 a0_2) := (blk_cell BK325.out 2).trans rfl; have hcz23_3 : w22.cell? ⟨gb325, 3, none⟩ = some (.int .i16 a0_3) := (blk_cell BK325.out 3).trans rfl; have hcz23_4 : w22.cell? ⟨gb325, 4, none⟩ = some (.int .i32 a0_4) := (blk_cell BK325.out 4).trans rfl; have hfz23_0 := blk_frozen BK325.out 0; have hfz23_1 := blk_frozen BK325.out 1; have hfz23_2 := blk_frozen BK325.out 2; have hfz23_3 := blk_frozen BK325.out 3; have hfz23_4 := blk_frozen BK325.out 4) | (go_at_call 54; (with_reducible refine (wardenref07_class.calls a0_0 a0_1 a0_2 a0_3 a0_4 t327 _ A4.out).mono ?_); rintro e w24 ⟨rfl, hb⟩; have n0_ := am (blk_below (g := gb325) (o := .cells #[.int .u8 a0_0, .int .u8 a0_1, .int .u8 a0_2, .int .i16 a0_3, .int .i32 a0_4] 24 (0, 0)) (by first | exact BK325.out | exact blk_drewN BK325.out _) hb); have n1_ := am (below_step (by repeat (first | exact HB.out | apply pb | apply pa | apply pd | refine below_set ?_ GE325.out)) hb); clear BK325; clear HB; have BK325 := n0_; have HB := n1_; clear n0_ n1_; (try clear hb); (try clear hb2); (try clear hk); (try clear hi)))
    go_ret
    exact ⟨by first | rfl | (simp [errW_none, errW_some] <;> rfl) | (simp [*, errW_none, errW_some] <;> rfl), by repeat (first | (with_reducible first | exact HB.out | apply below_alloc | apply pw_below_drewN | apply below_drew1 | refine below_set ?_ GE325.out) | exact HB.out)⟩
 ·rw [if_neg c3] at H
  have c3b0 : (t326 == 1) = false := beq_eq_false_iff_ne.mpr c3
  have c3b1 : (t326 != 1) = true := bne_iff_ne.mpr c3
  by_cases c25 : t326 = 5
  ·rw [if_pos c25] at H
   have c25b0 : (t326 == 5) = true := beq_iff_eq.mpr c25
   have c25b1 : (t326 != 5) = false := bne_eq_false_iff_eq.mpr c25
   clear c25
   replace H := Option.bind_eq_some_iff.mp H
   obtain ⟨t329, A260, H⟩ := H
   try dsimp only at H
   have A26 := am A260
   clear A260
   obtain rfl := Option.some.inj H
   go_enter Try.func26, Try.ntmps26
   go_wp2_with (first | ((with_reducible refine gate_dst (N := 1) rfl ?_); refine box_event ?hg (N := 1) ?hd (cs := #[.int .u8 a0_0, .int .u8 a0_1, .int .u8 a0_2, .int .i16 a0_3, .int .i32 a0_4]) (t := 24) ?hr ?_; (case hd => rfl); (case hg => rfl); (case hr => first | (go_simp; done) | (go_simp; rfl)); intro gb325 hg w27 hbox hb; have n0_ := am (below_step (by repeat (first | exact HB.out | apply pb | apply pa | apply pd)) hb); have n1_ := am (hbox); have n2_ := am ((by rw [hg]; exact (below_size (by repeat (first | exact HB.out | apply pb | apply pa | apply pd))) : w.heap.size ≤ gb325)); have n3_ := am ((by rw [hg]; exact (below_size (by repeat (first | exact HB.out | apply pb | apply pa | apply pd))) : w.heap.size ≤ gb325)); clear HB; have HB := n0_; have BK325 := n1_; have GW325 := n2_; have GE325 := n3_; clear n0_ n1_ n2_ n3_; clear hb hbox hg; have hcz28_0 : w27.cell? ⟨gb325, 0, none⟩ = some (.int .u8 a0_0) := (blk_cell BK325.out 0).trans rfl; have hcz28_1 : w27.cell? ⟨gb325, 1, none⟩ = some (.int .u8 a0_1) := (blk_cell BK325.out 1).trans rfl; have hcz28_2 : w27.cell? ⟨gb325, 2, none⟩ = some (.int .u8 a0_2) := (blk_cell BK325.out 2).trans rfl; have hcz28_3 : w27.cell? ⟨gb325, 3, none⟩ = some (.int .i16 a0_3) := (blk_cell BK325.out 3).trans rfl; have hcz28_4 : w27.cell? ⟨gb325, 4, none⟩ = some (.int .i32 a0_4) := (blk_cell BK325.out 4).trans rfl; have hfz28_0 := blk_frozen BK325.out 0; have hfz28_1 := blk_frozen BK325.out 1; have hfz28_2 := blk_frozen BK325.out 2; have hfz28_3 := blk_frozen BK325.out 3; have hfz28_4 := blk_frozen BK325.out 4) | ((with_reducible refine gate_callee (f := 20) rfl ?_); refine goesL_ (some 5) rfl rfl Try.func20 (by kernel_rfl) rfl #[.agg #[.int .u8 a0_0, .int .u8 a0_1, .int .u8 a0_2, .int .i16 a0_3, .int .i32 a0_4]] rfl (by (try simp only [List.map_toArray, List.map_cons, List.map_nil]); first | done | rfl) ?_; (with_reducible refine (wardenref07_Kind.calls k a0_0 a0_1 a0_2 a0_3 a0_4 t326 _ A2.out).mono ?_); rintro e w29 ⟨rfl, hb⟩; refine ⟨_, rfl, ?_⟩; have n0_ := am (blk_below (g := gb325) (o := .cells #[.int .u8 a0_0, .int .u8 a0_1, .int .u8 a0_2, .int .i16 a0_3, .int .i32 a0_4] 24 (0, 0)) (by first | exact BK325.out | exact blk_drewN BK325.out _) hb); have n1_ := am (below_step (by repeat (first | exact HB.out | apply pb | apply pa | apply pd | refine below_set ?_ GE325.out)) hb); clear BK325; clear HB; have BK325 := n0_; have HB := n1_; clear n0_ n1_; (try clear hb); (try clear hb2); (try clear hk); (try clear hi); have hcz30_0 : w29.cell? ⟨gb325, 0, none⟩ = some (.int .u8 a0_0) := (blk_cell BK325.out 0).trans rfl; have hcz30_1 : w29.cell? ⟨gb325, 1, none⟩ = some (.int .u8 a0_1) := (blk_cell BK325.out 1).trans rfl; have hcz30_2 : w29.cell? ⟨gb325, 2, none⟩ = some (.int .u8 a0_2) := (blk_cell BK325.out 2).trans rfl; have hcz30_3 : w29.cell? ⟨gb325, 3, none⟩ = some (.int .i16 a0_3) := (blk_cell BK325.out 3).trans rfl; have hcz30_4 : w29.cell? ⟨gb325, 4, none⟩ = some (.int .i32 a0_4) := (blk_cell BK325.out 4).trans rfl; have hfz30_0 := blk_frozen BK325.out 0; have hfz30_1 := blk_frozen BK325.out 1; have hfz30_2 := blk_frozen BK325.out 2; have hfz30_3 := blk_frozen BK325.out 3; have hfz30_4 := blk_frozen BK325.out 4) | (go_at_call 54; (with_reducible refine (wardenref07_class.calls a0_0 a0_1 a0_2 a0_3 a0_4 t329 _ A26.out).mono ?_); rintro e w31 ⟨rfl, hb⟩; have n0_ := am (blk_below (g := gb325) (o := .cells #[.int .u8 a0_0, .int .u8 a0_1, .int .u8 a0_2, .int .i16 a0_3, .int .i32 a0_4] 24 (0, 0)) (by first | exact BK325.out | exact blk_drewN BK325.out _) hb); have n1_ := am (below_step (by repeat (first | exact HB.out | apply pb | apply pa | apply pd | refine below_set ?_ GE325.out)) hb); clear BK325; clear HB; have BK325 := n0_; have HB := n1_; clear n0_ n1_; (try clear hb); (try clear hb2); (try clear hk); (try clear hi)))
   go_ret
   exact ⟨by first | rfl | (simp [errW_none, errW_some] <;> rfl) | (simp [*, errW_none, errW_some] <;> rfl), by repeat (first | (with_reducible first | exact HB.out | apply below_alloc | apply pw_below_drewN | apply below_drew1 | refine below_set ?_ GE325.out) | exact HB.out)⟩
  ·rw [if_neg c25] at H
   have c25b0 : (t326 == 5) = false := beq_eq_false_iff_ne.mpr c25
   have c25b1 : (t326 != 5) = true := bne_iff_ne.mpr c25
   obtain rfl := Option.some.inj H
   go_enter Try.func26, Try.ntmps26
   go_wp2_with (first | ((with_reducible refine gate_dst (N := 1) rfl ?_); refine box_event ?hg (N := 1) ?hd (cs := #[.int .u8 a0_0, .int .u8 a0_1, .int .u8 a0_2, .int .i16 a0_3, .int .i32 a0_4]) (t := 24) ?hr ?_; (case hd => rfl); (case hg => rfl); (case hr => first | (go_simp; done) | (go_simp; rfl)); intro gb325 hg w32 hbox hb; have n0_ := am (below_step (by repeat (first | exact HB.out | apply pb | apply pa | apply pd)) hb); have n1_ := am (hbox); have n2_ := am ((by rw [hg]; exact (below_size (by repeat (first | exact HB.out | apply pb | apply pa | apply pd))) : w.heap.size ≤ gb325)); have n3_ := am ((by rw [hg]; exact (below_size (by repeat (first | exact HB.out | apply pb | apply pa | apply pd))) : w.heap.size ≤ gb325)); clear HB; have HB := n0_; have BK325 := n1_; have GW325 := n2_; have GE325 := n3_; clear n0_ n1_ n2_ n3_; clear hb hbox hg; have hcz33_0 : w32.cell? ⟨gb325, 0, none⟩ = some (.int .u8 a0_0) := (blk_cell BK325.out 0).trans rfl; have hcz33_1 : w32.cell? ⟨gb325, 1, none⟩ = some (.int .u8 a0_1) := (blk_cell BK325.out 1).trans rfl; have hcz33_2 : w32.cell? ⟨gb325, 2, none⟩ = some (.int .u8 a0_2) := (blk_cell BK325.out 2).trans rfl; have hcz33_3 : w32.cell? ⟨gb325, 3, none⟩ = some (.int .i16 a0_3) := (blk_cell BK325.out 3).trans rfl; have hcz33_4 : w32.cell? ⟨gb325, 4, none⟩ = some (.int .i32 a0_4) := (blk_cell BK325.out 4).trans rfl; have hfz33_0 := blk_frozen BK325.out 0; have hfz33_1 := blk_frozen BK325.out 1; have hfz33_2 := blk_frozen BK325.out 2; have hfz33_3 := blk_frozen BK325.out 3; have hfz33_4 := blk_frozen BK325.out 4) | ((with_reducible refine gate_callee (f := 20) rfl ?_); refine goesL_ (some 5) rfl rfl Try.func20 (by kernel_rfl) rfl #[.agg #[.int .u8 a0_0, .int .u8 a0_1, .int .u8 a0_2, .int .i16 a0_3, .int .i32 a0_4]] rfl (by (try simp only [List.map_toArray, List.map_cons, List.map_nil]); first | done | rfl) ?_; (with_reducible refine (wardenref07_Kind.calls k a0_0 a0_1 a0_2 a0_3 a0_4 t326 _ A2.out).mono ?_); rintro e w34 ⟨rfl, hb⟩; refine ⟨_, rfl, ?_⟩; have n0_ := am (blk_below (g := gb325) (o := .cells #[.int .u8 a0_0, .int .u8 a0_1, .int .u8 a0_2, .int .i16 a0_3, .int .i32 a0_4] 24 (0, 0)) (by first | exact BK325.out | exact blk_drewN BK325.out _) hb); have n1_ := am (below_step (by repeat (first | exact HB.out | apply pb | apply pa | apply pd | refine below_set ?_ GE325.out)) hb); clear BK325; clear HB; have BK325 := n0_; have HB := n1_; clear n0_ n1_; (try clear hb); (try clear hb2); (try clear hk); (try clear hi)))
   go_ret
   exact ⟨by first | rfl | (simp [errW_none, errW_some] <;> rfl) | (simp [*, errW_none, errW_some] <;> rfl), by repeat (first | (with_reducible first | exact HB.out | apply below_alloc | apply pw_below_drewN | apply below_drew1 | refine below_set ?_ GE325.out) | exact HB.out)⟩

end Go.Proofs.Ytibghcmkmbamjaa.PI
