-- turned from the kit's print
import Derived.Test.YtibghcmkmbamjaaGPI
import Derived.Test.YtibghcmkmbamjaaPIx12b
import Derived.Test.YtibghcmkmbamjaaPIx13
namespace Go.Proofs.Ytibghcmkmbamjaa.PI
open Go.RowKit Go.Proofs.YtibghcmkmbamjaaW.PrintWords Go.Proofs.YtibghcmkmbamjaaW.PrintLast Go.Proofs.YtibghcmkmbamjaaW.PrintMore
attribute [local go_sem] max2_int min2_int max_two min_two max_three min_three max_four min_four   -- for this text's walks alone
set_option linter.unusedVariables false
set_option linter.unusedSimpArgs false

/-! ### wardenref07_jumps: function 57 -/
mutual
def wardenref07_jumps.j0 : Nat → Int → Bool → Int → Int → Int → Int → Int → Option (Int)
 | 0, _, _, _, _, _, _, _ => none
 | k + 1, x3, x16, x294000, x294001, x294002, x294003, x294004 => if x16 = true then (some 5) else ((wardenref07_class.f x294000 x294001 x294002 x294003 x294004).bind fun t299 => (if t299 = 5 then ((wardenref07_x.f x294000 x294001 x294002 x294003 x294004).bind fun t300 => (wardenref07_jumps.j1 k x3 t300 x294000 x294001 x294002 x294003 x294004)) else (wardenref07_jumps.j1 k x3 true x294000 x294001 x294002 x294003 x294004)))
def wardenref07_jumps.j1 : Nat → Int → Bool → Int → Int → Int → Int → Int → Option (Int)
 | 0, _, _, _, _, _, _, _ => none
 | k + 1, x3, x23, x294000, x294001, x294002, x294003, x294004 => if x23 = true then (some 0) else (if x3 = 0 then ((wardenref07_is.f x294000 x294001 x294002 x294003 x294004 false false true false).bind fun t301 => (wardenref07_jumps.j2 k x3 t301 x294000 x294001 x294002 x294003 x294004)) else (wardenref07_jumps.j2 k x3 false x294000 x294001 x294002 x294003 x294004))
def wardenref07_jumps.j2 : Nat → Int → Bool → Int → Int → Int → Int → Int → Option (Int)
 | 0, _, _, _, _, _, _, _ => none
 | k + 1, x3, x24, x294000, x294001, x294002, x294003, x294004 => if x24 = true then (some 10) else (if x3 = 9 then ((wardenref07_is.f x294000 x294001 x294002 x294003 x294004 false false false false).bind fun t302 => (wardenref07_jumps.j3 k x3 t302 x294000 x294001 x294002 x294003 x294004)) else (wardenref07_jumps.j3 k x3 false x294000 x294001 x294002 x294003 x294004))
def wardenref07_jumps.j3 : Nat → Int → Bool → Int → Int → Int → Int → Int → Option (Int)
 | 0, _, _, _, _, _, _, _ => none
 | k + 1, x3, x31, x294000, x294001, x294002, x294003, x294004 => if x31 = true then (some 8) else (if x3 = 8 then ((wardenref07_is.f x294000 x294001 x294002 x294003 x294004 false true false true).bind fun t303 => (if t303 = true then (wardenref07_jumps.j4 k x3 (x294002 == 0) x294000 x294001 x294002 x294003 x294004) else (wardenref07_jumps.j4 k x3 false x294000 x294001 x294002 x294003 x294004))) else (wardenref07_jumps.j4 k x3 false x294000 x294001 x294002 x294003 x294004))
def wardenref07_jumps.j4 : Nat → Int → Bool → Int → Int → Int → Int → Int → Option (Int)
 | 0, _, _, _, _, _, _, _ => none
 | k + 1, x3, x38, x294000, x294001, x294002, x294003, x294004 => if x38 = true then (some 6) else (if x3 = 8 then ((wardenref07_is.f x294000 x294001 x294002 x294003 x294004 false true false true).bind fun t304 => (if t304 = true then (if x294002 = 1 then (some 7) else (some 0)) else (some 0))) else (some 0))
end
def wardenref07_jumps.f (k : Nat) (a0_0 : Int) (a0_1 : Int) (a0_2 : Int) (a0_3 : Int) (a0_4 : Int) : Option (Int) := (wardenref07_Code.f a0_0 a0_1 a0_2 a0_3 a0_4).bind fun t294 => ((wardenref07_asks.f t294).bind fun t295 => (if t295 = true then ((wardenref07_x.f a0_0 a0_1 a0_2 a0_3 a0_4).bind fun t296 => ((wardenref07_x.f a0_0 a0_1 a0_2 a0_3 a0_4).bind fun t297 => ((wardenref07_is.f a0_0 a0_1 a0_2 a0_3 a0_4 true t296 true (!t297)).bind fun t298 => (wardenref07_jumps.j0 k t294 t298 a0_0 a0_1 a0_2 a0_3 a0_4)))) else (wardenref07_jumps.j0 k t294 false a0_0 a0_1 a0_2 a0_3 a0_4)))
theorem wardenref07_jumps.mono_l : ∀ k, (∀ y0 y1 y2 y3 y4 y5 y6, LeO (wardenref07_jumps.j0 k y0 y1 y2 y3 y4 y5 y6) (wardenref07_jumps.j0 (k + 1) y0 y1 y2 y3 y4 y5 y6)) ∧ (∀ y0 y1 y2 y3 y4 y5 y6, LeO (wardenref07_jumps.j1 k y0 y1 y2 y3 y4 y5 y6) (wardenref07_jumps.j1 (k + 1) y0 y1 y2 y3 y4 y5 y6)) ∧ (∀ y0 y1 y2 y3 y4 y5 y6, LeO (wardenref07_jumps.j2 k y0 y1 y2 y3 y4 y5 y6) (wardenref07_jumps.j2 (k + 1) y0 y1 y2 y3 y4 y5 y6)) ∧ (∀ y0 y1 y2 y3 y4 y5 y6, LeO (wardenref07_jumps.j3 k y0 y1 y2 y3 y4 y5 y6) (wardenref07_jumps.j3 (k + 1) y0 y1 y2 y3 y4 y5 y6)) ∧ (∀ y0 y1 y2 y3 y4 y5 y6, LeO (wardenref07_jumps.j4 k y0 y1 y2 y3 y4 y5 y6) (wardenref07_jumps.j4 (k + 1) y0 y1 y2 y3 y4 y5 y6))
 | 0 => ⟨fun _ _ _ _ _ _ _ r h => by simp [wardenref07_jumps.j0] at h, fun _ _ _ _ _ _ _ r h => by simp [wardenref07_jumps.j1] at h, fun _ _ _ _ _ _ _ r h => by simp [wardenref07_jumps.j2] at h, fun _ _ _ _ _ _ _ r h => by simp [wardenref07_jumps.j3] at h, fun _ _ _ _ _ _ _ r h => by simp [wardenref07_jumps.j4] at h⟩
 | k + 1 => by
  obtain ⟨ih0, ih1, ih2, ih3, ih4⟩ := wardenref07_jumps.mono_l k
  refine ⟨?_, ?_, ?_, ?_, ?_⟩
  ·intro y0 y1 y2 y3 y4 y5 y6
   unfold wardenref07_jumps.j0
   repeat' first
   | (with_reducible exact ih0 _ _ _ _ _ _ _)
   | (with_reducible exact ih1 _ _ _ _ _ _ _)
   | (with_reducible exact ih2 _ _ _ _ _ _ _)
   | (with_reducible exact ih3 _ _ _ _ _ _ _)
   | (with_reducible exact ih4 _ _ _ _ _ _ _)
   | (with_reducible exact LeO.refl _)
   | (with_reducible exact LeO.none _)
   | (with_reducible refine LeO.ite ?_ ?_)
   | (with_reducible refine LeO.bind ?_ (fun _ => ?_))
   | exact ih0 _ _ _ _ _ _ _
   | exact ih1 _ _ _ _ _ _ _
   | exact ih2 _ _ _ _ _ _ _
   | exact ih3 _ _ _ _ _ _ _
   | exact ih4 _ _ _ _ _ _ _
   | exact LeO.none _
   | refine LeO.ite ?_ ?_
   | refine LeO.bind ?_ (fun _ => ?_)
  ·intro y0 y1 y2 y3 y4 y5 y6
   unfold wardenref07_jumps.j1
   repeat' first
   | (with_reducible exact ih0 _ _ _ _ _ _ _)
   | (with_reducible exact ih1 _ _ _ _ _ _ _)
   | (with_reducible exact ih2 _ _ _ _ _ _ _)
   | (with_reducible exact ih3 _ _ _ _ _ _ _)
   | (with_reducible exact ih4 _ _ _ _ _ _ _)
   | (with_reducible exact LeO.refl _)
   | (with_reducible exact LeO.none _)
   | (with_reducible refine LeO.ite ?_ ?_)
   | (with_reducible refine LeO.bind ?_ (fun _ => ?_))
   | exact ih0 _ _ _ _ _ _ _
   | exact ih1 _ _ _ _ _ _ _
   | exact ih2 _ _ _ _ _ _ _
   | exact ih3 _ _ _ _ _ _ _
   | exact ih4 _ _ _ _ _ _ _
   | exact LeO.none _
   | refine LeO.ite ?_ ?_
   | refine LeO.bind ?_ (fun _ => ?_)
  ·intro y0 y1 y2 y3 y4 y5 y6
   unfold wardenref07_jumps.j2
   repeat' first
   | (with_reducible exact ih0 _ _ _ _ _ _ _)
   | (with_reducible exact ih1 _ _ _ _ _ _ _)
   | (with_reducible exact ih2 _ _ _ _ _ _ _)
   | (with_reducible exact ih3 _ _ _ _ _ _ _)
   | (with_reducible exact ih4 _ _ _ _ _ _ _)
   | (with_reducible exact LeO.refl _)
   | (with_reducible exact LeO.none _)
   | (with_reducible refine LeO.ite ?_ ?_)
   | (with_reducible refine LeO.bind ?_ (fun _ => ?_))
   | exact ih0 _ _ _ _ _ _ _
   | exact ih1 _ _ _ _ _ _ _
   | exact ih2 _ _ _ _ _ _ _
   | exact ih3 _ _ _ _ _ _ _
   | exact ih4 _ _ _ _ _ _ _
   | exact LeO.none _
   | refine LeO.ite ?_ ?_
   | refine LeO.bind ?_ (fun _ => ?_)
  ·intro y0 y1 y2 y3 y4 y5 y6
   unfold wardenref07_jumps.j3
   repeat' first
   | (with_reducible exact ih0 _ _ _ _ _ _ _)
   | (with_reducible exact ih1 _ _ _ _ _ _ _)
   | (with_reducible exact ih2 _ _ _ _ _ _ _)
   | (with_reducible exact ih3 _ _ _ _ _ _ _)
   | (with_reducible exact ih4 _ _ _ _ _ _ _)
   | (with_reducible exact LeO.refl _)
   | (with_reducible exact LeO.none _)
   | (with_reducible refine LeO.ite ?_ ?_)
   | (with_reducible refine LeO.bind ?_ (fun _ => ?_))
   | exact ih0 _ _ _ _ _ _ _
   | exact ih1 _ _ _ _ _ _ _
   | exact ih2 _ _ _ _ _ _ _
   | exact ih3 _ _ _ _ _ _ _
   | exact ih4 _ _ _ _ _ _ _
   | exact LeO.none _
   | refine LeO.ite ?_ ?_
   | refine LeO.bind ?_ (fun _ => ?_)
  ·intro y0 y1 y2 y3 y4 y5 y6
   unfold wardenref07_jumps.j4
   repeat' first
   | (with_reducible exact ih0 _ _ _ _ _ _ _)
   | (with_reducible exact ih1 _ _ _ _ _ _ _)
   | (with_reducible exact ih2 _ _ _ _ _ _ _)
   | (with_reducible exact ih3 _ _ _ _ _ _ _)
   | (with_reducible exact ih4 _ _ _ _ _ _ _)
   | (with_reducible exact LeO.refl _)
   | (with_reducible exact LeO.none _)
   | (with_reducible refine LeO.ite ?_ ?_)
   | (with_reducible refine LeO.bind ?_ (fun _ => ?_))
   | exact ih0 _ _ _ _ _ _ _
   | exact ih1 _ _ _ _ _ _ _
   | exact ih2 _ _ _ _ _ _ _
   | exact ih3 _ _ _ _ _ _ _
   | exact ih4 _ _ _ _ _ _ _
   | exact LeO.none _
   | refine LeO.ite ?_ ?_
   | refine LeO.bind ?_ (fun _ => ?_)
theorem wardenref07_jumps.mono : ∀ a0 a1 a2 a3 a4 k, LeO (wardenref07_jumps.f k a0 a1 a2 a3 a4) (wardenref07_jumps.f (k + 1) a0 a1 a2 a3 a4) := by
 intro a0 a1 a2 a3 a4 k
 obtain ⟨ih0, ih1, ih2, ih3, ih4⟩ := wardenref07_jumps.mono_l k
 unfold wardenref07_jumps.f
 repeat' first
   | (with_reducible exact ih0 _ _ _ _ _ _ _)
   | (with_reducible exact ih1 _ _ _ _ _ _ _)
   | (with_reducible exact ih2 _ _ _ _ _ _ _)
   | (with_reducible exact ih3 _ _ _ _ _ _ _)
   | (with_reducible exact ih4 _ _ _ _ _ _ _)
   | (with_reducible exact LeO.refl _)
   | (with_reducible exact LeO.none _)
   | (with_reducible refine LeO.ite ?_ ?_)
   | (with_reducible refine LeO.bind ?_ (fun _ => ?_))
   | exact ih0 _ _ _ _ _ _ _
   | exact ih1 _ _ _ _ _ _ _
   | exact ih2 _ _ _ _ _ _ _
   | exact ih3 _ _ _ _ _ _ _
   | exact ih4 _ _ _ _ _ _ _
   | exact LeO.none _
   | refine LeO.ite ?_ ?_
   | refine LeO.bind ?_ (fun _ => ?_)
def wardenref07_jumps.T2 : Bool × List (List Nat × List Nat) := (true, [([], []), ([0], [0]), ([1, 1], [1]), ([2], [2]), ([2], [2]), ([4, 2, 2], [2, 4]), ([2], [2]), ([6, 5, 2], [2, 6]), ([7, 2], [2, 7]), ([3, 5, 8, 7, 2], [2, 3, 5, 8]), ([2, 9], [2, 9])])
def wardenref07_jumps.B2 : List Nat := [0, 1, 3, 7, 7, 23, 7, 119, 247, 511, 1023]
theorem wardenref07_jumps.tab2 : rtab .any (opsOf Try.f57 2) = wardenref07_jumps.T2 := by kernel_rfl
theorem wardenref07_jumps.bits2 : waitsOk wardenref07_jumps.T2.2 wardenref07_jumps.B2 = true := by kernel_rfl
set_option maxHeartbeats 8000000 in
set_option maxRecDepth 100000 in
theorem wardenref07_jumps.calls (k : Nat) (a0_0 : Int) (a0_1 : Int) (a0_2 : Int) (a0_3 : Int) (a0_4 : Int) (r : Int) (w : World) (h : wardenref07_jumps.f k a0_0 a0_1 a0_2 a0_3 a0_4 = some r) :
  Calls Try.prog 57 #[.agg #[.int .u8 a0_0, .int .u8 a0_1, .int .u8 a0_2, .int .i16 a0_3, .int .i32 a0_4]] w fun e w' => e = .returned (.int .u8 r) ∧ Below w.heap.size w w' := by
 have hu24 := Try.underlying24
 have HB := am (Below.refl w.heap.size w)
 have H : ((wardenref07_Code.f a0_0 a0_1 a0_2 a0_3 a0_4).bind fun t294 => ((wardenref07_asks.f t294).bind fun t295 => (if t295 = true then ((wardenref07_x.f a0_0 a0_1 a0_2 a0_3 a0_4).bind fun t296 => ((wardenref07_x.f a0_0 a0_1 a0_2 a0_3 a0_4).bind fun t297 => ((wardenref07_is.f a0_0 a0_1 a0_2 a0_3 a0_4 true t296 true (!t297)).bind fun t298 => (wardenref07_jumps.j0 k t294 t298 a0_0 a0_1 a0_2 a0_3 a0_4)))) else (wardenref07_jumps.j0 k t294 false a0_0 a0_1 a0_2 a0_3 a0_4)))) = some r := h
 clear h
 replace H := Option.bind_eq_some_iff.mp H
 obtain ⟨t294, A20, H⟩ := H
 try dsimp only at H
 have A2 := am A20
 clear A20
 have HC3 := am H
 clear H
 go_enter Try.func57, Try.ntmps57
 go_upto_region 2 with (first | ((with_reducible refine gate_dst (N := 1) rfl ?_); refine box_event ?hg (N := 1) ?hd (cs := #[.int .u8 a0_0, .int .u8 a0_1, .int .u8 a0_2, .int .i16 a0_3, .int .i32 a0_4]) (t := 24) ?hr ?_; (case hd => rfl); (case hg => rfl); (case hr => first | (go_simp; done) | (go_simp; rfl)); intro gb293 hg w4 hbox hb; have n0_ := am (below_step (by repeat (first | exact HB.out | apply pb | apply pa | apply pd)) hb); have n1_ := am (hbox); have n2_ := am ((by rw [hg]; exact (below_size (by repeat (first | exact HB.out | apply pb | apply pa | apply pd))) : w.heap.size ≤ gb293)); have n3_ := am ((by rw [hg]; exact (below_size (by repeat (first | exact HB.out | apply pb | apply pa | apply pd))) : w.heap.size ≤ gb293)); clear HB; have HB := n0_; have BK293 := n1_; have GW293 := n2_; have GE293 := n3_; clear n0_ n1_ n2_ n3_; clear hb hbox hg; have hcz5_0 : w4.cell? ⟨gb293, 0, none⟩ = some (.int .u8 a0_0) := (blk_cell BK293.out 0).trans rfl; have hcz5_1 : w4.cell? ⟨gb293, 1, none⟩ = some (.int .u8 a0_1) := (blk_cell BK293.out 1).trans rfl; have hcz5_2 : w4.cell? ⟨gb293, 2, none⟩ = some (.int .u8 a0_2) := (blk_cell BK293.out 2).trans rfl; have hcz5_3 : w4.cell? ⟨gb293, 3, none⟩ = some (.int .i16 a0_3) := (blk_cell BK293.out 3).trans rfl; have hcz5_4 : w4.cell? ⟨gb293, 4, none⟩ = some (.int .i32 a0_4) := (blk_cell BK293.out 4).trans rfl; have hfz5_0 := blk_frozen BK293.out 0; have hfz5_1 := blk_frozen BK293.out 1; have hfz5_2 := blk_frozen BK293.out 2; have hfz5_3 := blk_frozen BK293.out 3; have hfz5_4 := blk_frozen BK293.out 4) | ((with_reducible refine gate_callee (f := 22) rfl ?_); refine goesL_ (some 5) rfl rfl Try.func22 (by kernel_rfl) rfl #[.agg #[.int .u8 a0_0, .int .u8 a0_1, .int .u8 a0_2, .int .i16 a0_3, .int .i32 a0_4]] rfl (by (try simp only [List.map_toArray, List.map_cons, List.map_nil]); first | done | rfl) ?_; (with_reducible refine (wardenref07_Code.calls a0_0 a0_1 a0_2 a0_3 a0_4 t294 _ A2.out).mono ?_); rintro e w6 ⟨rfl, hb⟩; refine ⟨_, rfl, ?_⟩; have n0_ := am (blk_below (g := gb293) (o := .cells #[.int .u8 a0_0, .int .u8 a0_1, .int .u8 a0_2, .int .i16 a0_3, .int .i32 a0_4] 24 (0, 0)) (by first | exact BK293.out | exact blk_drewN BK293.out _) hb); have n1_ := am (below_step (by repeat (first | exact HB.out | apply pb | apply pa | apply pd | refine below_set ?_ GE293.out)) hb); clear BK293; clear HB; have BK293 := n0_; have HB := n1_; clear n0_ n1_; (try clear hb); (try clear hb2); (try clear hk); (try clear hi)))
 (try simp only [Act.put, List.setIfInBounds_toArray, List.set_cons_zero, List.set_cons_succ])
 go_cut [16] (fun v16 wc => ∃ (kq : Nat) (x16_2 : Bool), v16 = .bool x16_2 ∧ Aside0 (wardenref07_jumps.j0 kq t294 x16_2 a0_0 a0_1 a0_2 a0_3 a0_4 = some r) ∧ Aside0 (kq ≤ k) ∧ Aside0 (wc.heap[gb293]? = some (.cells #[.int .u8 a0_0, .int .u8 a0_1, .int .u8 a0_2, .int .i16 a0_3, .int .i32 a0_4] 24 (0, 0))) ∧ Aside0 (Below w.heap.size w wc))
 case first =>
  have H := HC3.out
  clear HC3
  replace H := Option.bind_eq_some_iff.mp H
  obtain ⟨t295, A70, H⟩ := H
  try dsimp only at H
  have A7 := am A70
  clear A70
  by_cases c8 : t295 = true
  ·subst c8
   have H1 : ((wardenref07_x.f a0_0 a0_1 a0_2 a0_3 a0_4).bind fun t296 => ((wardenref07_x.f a0_0 a0_1 a0_2 a0_3 a0_4).bind fun t297 => ((wardenref07_is.f a0_0 a0_1 a0_2 a0_3 a0_4 true t296 true (!t297)).bind fun t298 => (wardenref07_jumps.j0 k t294 t298 a0_0 a0_1 a0_2 a0_3 a0_4)))) = some r := by rw [if_pos rfl] at H; exact H
   clear H
   have H := H1
   clear H1
   replace H := Option.bind_eq_some_iff.mp H
   obtain ⟨t296, A90, H⟩ := H
   try dsimp only at H
   have A9 := am A90
   clear A90
   replace H := Option.bind_eq_some_iff.mp H
   obtain ⟨t297, A100, H⟩ := H
   try dsimp only at H
   have A10 := am A100
   clear A100
   replace H := Option.bind_eq_some_iff.mp H
   obtain ⟨t298, A110, H⟩ := H
   try dsimp only at H
   have A11 := am A110
   clear A110
   have H' := am H
   clear H
   try go_wp2
   have n0_ := am (blk_drew BK293.out)
   have n1_ := am (below_drew1 HB.out)
   clear BK293
   clear HB
   have BK293 := n0_
   have HB := n1_
   clear n0_ n1_
   refine start_ (n := 11) (S := fun w' => w'.cell? ⟨gb293, 0, none⟩ = some (.int .u8 a0_0) ∧ w'.cell? ⟨gb293, 1, none⟩ = some (.int .u8 a0_1) ∧ w'.cell? ⟨gb293, 2, none⟩ = some (.int .u8 a0_2) ∧ w'.cell? ⟨gb293, 3, none⟩ = some (.int .i16 a0_3) ∧ w'.cell? ⟨gb293, 4, none⟩ = some (.int .i32 a0_4)) (ds := []) (ar 11 0) (by kernel_rfl) rfl rfl ⟨(blk_cell BK293.out 0).trans rfl, (blk_cell BK293.out 1).trans rfl, (blk_cell BK293.out 2).trans rfl, (blk_cell BK293.out 3).trans rfl, (blk_cell BK293.out 4).trans rfl⟩ (fun hHeld => ?_); refine with_tabW wardenref07_jumps.tab2 wardenref07_jumps.bits2 (fun HT_ HW_ => ?_)
   generalize w6.drew = w12 at BK293 HB hHeld ⊢
   refine pure_ (i := 0) (N := some 6) (v := ?_) (a' := ?_) (ar 11 1) rfl rfl (any_of HT_.out (by kernel_rfl)) (fun _ _ _ h => h) (Or.inl ⟨by rfl, ?_⟩) ?_ ?_
   rotate_left
   ·intro w'
    go_simp
    with_reducible rfl
   rotate_left
   ·simp only [Act.put, q1, q2, q3, i64_w, i32_w]
    rfl
   refine one_ (i := 1) (N := some 7) (ar 11 3) rfl rfl (one_of HT_.out (by kernel_rfl)) (by decide) (fun K hK => ?_)
   refine goes_ Try.func96 (by kernel_rfl) rfl #[.int .u8 t294] (by rfl) rfl rfl (by (try simp only [List.map_toArray, List.map_cons, List.map_nil]); first | done | rfl) ?_
   with_reducible refine (wardenref07_asks.calls t294 true _ A7.out).mono ?_
   rintro e w' ⟨rfl, ⟨nd, rfl⟩⟩
   refine ⟨_, rfl, ?_⟩
   refine hK.out _ _ ⟨(blk_cell BK293.out 0).trans rfl, (blk_cell BK293.out 1).trans rfl, (blk_cell BK293.out 2).trans rfl, (blk_cell BK293.out 3).trans rfl, (blk_cell BK293.out 4).trans rfl⟩ (fun hHeld => ?_)
   clear hK K
   refine norm_ (a' := ?_) ?_ ?_
   rotate_left
   ·show Act.put _ (some 7) _ = _
    simp only [Act.put, q1, q2, q3, i64_w, i32_w]
    rfl
   refine pure_ (i := 2) (N := some 8) (v := ?_) (a' := ?_) (ar 11 7) rfl rfl (any_of HT_.out (by kernel_rfl)) (fun _ _ _ h => h) (Or.inl ⟨by rfl, ?_⟩) ?_ ?_
   rotate_left
   ·intro w'
    go_simp
    with_reducible rfl
   rotate_left
   ·simp only [Act.put, q1, q2, q3, i64_w, i32_w]
    rfl
   refine take_ (i := 3) (N := some 9) (v := ?_) (a' := ?_) (ar 11 15) rfl rfl (take_ofW HT_.out HW_.out (by kernel_rfl)) (fun _ _ _ h => h) (Or.inl ⟨by rfl, ?_⟩) hHeld ?_ ?_
   rotate_left
   ·rintro w' ⟨s0, s1, s2, s3, s4⟩
    go_simp
    with_reducible rfl
   rotate_left
   ·simp only [Act.put, q1, q2, q3, i64_w, i32_w]
    rfl
   refine take_ (i := 4) (N := some 10) (v := ?_) (a' := ?_) (ar 11 31) rfl rfl (take_ofW HT_.out HW_.out (by kernel_rfl)) (fun _ _ _ h => h) (Or.inl ⟨by rfl, ?_⟩) hHeld ?_ ?_
   rotate_left
   ·rintro w' ⟨s0, s1, s2, s3, s4⟩
    go_simp
    with_reducible rfl
   rotate_left
   ·simp only [Act.put, q1, q2, q3, i64_w, i32_w]
    rfl
   refine take_ (i := 6) (N := some 12) (v := ?_) (a' := ?_) (ar 11 95) rfl rfl (take_ofW HT_.out HW_.out (by kernel_rfl)) (fun _ _ _ h => h) (Or.inl ⟨by rfl, ?_⟩) hHeld ?_ ?_
   rotate_left
   ·rintro w' ⟨s0, s1, s2, s3, s4⟩
    go_simp
    with_reducible rfl
   rotate_left
   ·simp only [Act.put, q1, q2, q3, i64_w, i32_w]
    rfl
   refine one_ (i := 5) (N := some 11) (ar 11 127) rfl rfl (one_of HT_.out (by kernel_rfl)) (by decide) (fun K hK => ?_)
   refine goes_ Try.func55 (by kernel_rfl) rfl #[.agg #[.int .u8 a0_0, .int .u8 a0_1, .int .u8 a0_2, .int .i16 a0_3, .int .i32 a0_4]] (by rfl) rfl rfl (by (try simp only [List.map_toArray, List.map_cons, List.map_nil]); first | done | rfl) ?_
   with_reducible refine (wardenref07_x.calls a0_0 a0_1 a0_2 a0_3 a0_4 t296 _ A9.out).mono ?_
   rintro e w13 ⟨rfl, hb⟩
   refine ⟨_, rfl, ?_⟩
   have n0_ := am (blk_below (g := gb293) (o := .cells #[.int .u8 a0_0, .int .u8 a0_1, .int .u8 a0_2, .int .i16 a0_3, .int .i32 a0_4] 24 (0, 0)) (by first | exact BK293.out | exact blk_drewN BK293.out _) hb)
   have n1_ := am (below_step (by repeat (first | exact HB.out | apply pb | apply pa | apply pd | refine below_set ?_ GE293.out)) hb)
   clear BK293
   clear HB
   have BK293 := n0_
   have HB := n1_
   clear n0_ n1_
   (try clear hb)
   (try clear hb2)
   (try clear hk)
   (try clear hi)
   refine hK.out _ _ ⟨(blk_cell BK293.out 0).trans rfl, (blk_cell BK293.out 1).trans rfl, (blk_cell BK293.out 2).trans rfl, (blk_cell BK293.out 3).trans rfl, (blk_cell BK293.out 4).trans rfl⟩ (fun hHeld => ?_)
   clear hK K
   refine norm_ (a' := ?_) ?_ ?_
   rotate_left
   ·show Act.put _ (some 11) _ = _
    simp only [Act.put, q1, q2, q3, i64_w, i32_w]
    rfl
   refine one_ (i := 7) (N := some 13) (ar 11 255) rfl rfl (one_of HT_.out (by kernel_rfl)) (by decide) (fun K hK => ?_)
   refine goes_ Try.func55 (by kernel_rfl) rfl #[.agg #[.int .u8 a0_0, .int .u8 a0_1, .int .u8 a0_2, .int .i16 a0_3, .int .i32 a0_4]] (by rfl) rfl rfl (by (try simp only [List.map_toArray, List.map_cons, List.map_nil]); first | done | rfl) ?_
   with_reducible refine (wardenref07_x.calls a0_0 a0_1 a0_2 a0_3 a0_4 t297 _ A10.out).mono ?_
   rintro e w14 ⟨rfl, hb⟩
   refine ⟨_, rfl, ?_⟩
   have n0_ := am (blk_below (g := gb293) (o := .cells #[.int .u8 a0_0, .int .u8 a0_1, .int .u8 a0_2, .int .i16 a0_3, .int .i32 a0_4] 24 (0, 0)) (by first | exact BK293.out | exact blk_drewN BK293.out _) hb)
   have n1_ := am (below_step (by repeat (first | exact HB.out | apply pb | apply pa | apply pd | refine below_set ?_ GE293.out)) hb)
   clear BK293
   clear HB
   have BK293 := n0_
   have HB := n1_
   clear n0_ n1_
   (try clear hb)
   (try clear hb2)
   (try clear hk)
   (try clear hi)
   refine hK.out _ _ ⟨(blk_cell BK293.out 0).trans rfl, (blk_cell BK293.out 1).trans rfl, (blk_cell BK293.out 2).trans rfl, (blk_cell BK293.out 3).trans rfl, (blk_cell BK293.out 4).trans rfl⟩ (fun hHeld => ?_)
   clear hK K
   refine norm_ (a' := ?_) ?_ ?_
   rotate_left
   ·show Act.put _ (some 13) _ = _
    simp only [Act.put, q1, q2, q3, i64_w, i32_w]
    rfl
   refine pure_ (i := 8) (N := some 14) (v := ?_) (a' := ?_) (ar 11 511) rfl rfl (any_of HT_.out (by kernel_rfl)) (fun _ _ _ h => h) (Or.inl ⟨by rfl, ?_⟩) ?_ ?_
   rotate_left
   ·intro w'
    go_simp
    with_reducible rfl
   rotate_left
   ·simp only [Act.put, q1, q2, q3, i64_w, i32_w]
    rfl
   refine one_ (i := 9) (N := some 15) (ar 11 1023) rfl rfl (one_of HT_.out (by kernel_rfl)) (by decide) (fun K hK => ?_)
   refine goes_ Try.func56 (by kernel_rfl) rfl #[.agg #[.int .u8 a0_0, .int .u8 a0_1, .int .u8 a0_2, .int .i16 a0_3, .int .i32 a0_4], .bool true, .bool t296, .bool true, .bool (!t297)] (by rfl) rfl rfl (by (try simp only [List.map_toArray, List.map_cons, List.map_nil]); first | done | rfl) ?_
   with_reducible refine (wardenref07_is.calls a0_0 a0_1 a0_2 a0_3 a0_4 true t296 true (!t297) t298 _ A11.out).mono ?_
   rintro e w15 ⟨rfl, hb⟩
   refine ⟨_, rfl, ?_⟩
   have n0_ := am (blk_below (g := gb293) (o := .cells #[.int .u8 a0_0, .int .u8 a0_1, .int .u8 a0_2, .int .i16 a0_3, .int .i32 a0_4] 24 (0, 0)) (by first | exact BK293.out | exact blk_drewN BK293.out _) hb)
   have n1_ := am (below_step (by repeat (first | exact HB.out | apply pb | apply pa | apply pd | refine below_set ?_ GE293.out)) hb)
   clear BK293
   clear HB
   have BK293 := n0_
   have HB := n1_
   clear n0_ n1_
   (try clear hb)
   (try clear hb2)
   (try clear hk)
   (try clear hi)
   refine hK.out _ _ ⟨(blk_cell BK293.out 0).trans rfl, (blk_cell BK293.out 1).trans rfl, (blk_cell BK293.out 2).trans rfl, (blk_cell BK293.out 3).trans rfl, (blk_cell BK293.out 4).trans rfl⟩ (fun hHeld => ?_)
   clear hK K
   refine norm_ (a' := ?_) ?_ ?_
   rotate_left
   ·show Act.put _ (some 15) _ = _
    simp only [Act.put, q1, q2, q3, i64_w, i32_w]
    rfl
   refine pure_ (i := 10) (N := some 16) (v := ?_) (a' := ?_) (ar 11 2047) rfl rfl (any_of HT_.out (by kernel_rfl)) (fun _ _ _ h => h) (Or.inl ⟨by rfl, ?_⟩) ?_ ?_
   rotate_left
   ·intro w'
    go_simp
    with_reducible rfl
   rotate_left
   ·simp only [Act.put, q1, q2, q3, i64_w, i32_w]
    rfl
   refine done_ (done_of HT_.out (by kernel_rfl)) ?_
   try go_wp2
   go_meet
   case rel => exact ⟨_, (t298), (by first | rfl | (simp; done) | (simp [*]; done)), H', ⟨by first | omega | exact Nat.le_refl _⟩, ⟨by (with_reducible repeat (first | refine blk_drewN ?_ _ | refine blk_drew ?_ | refine blk_alloc ?_ _)); exact BK293.out⟩, ⟨by repeat (first | (with_reducible first | exact HB.out | apply below_alloc | apply pw_below_drewN | apply below_drew1 | refine below_set ?_ GE293.out) | exact HB.out)⟩⟩
  ·replace c8 := Bool.eq_false_iff.mpr c8
   subst c8
   have H1 : (wardenref07_jumps.j0 k t294 false a0_0 a0_1 a0_2 a0_3 a0_4) = some r := by rw [if_neg (show ¬ (false = true) by decide)] at H; exact H
   clear H
   have H := H1
   clear H1
   have H' := am H
   clear H
   try go_wp2
   have n0_ := am (blk_drew BK293.out)
   have n1_ := am (below_drew1 HB.out)
   clear BK293
   clear HB
   have BK293 := n0_
   have HB := n1_
   clear n0_ n1_
   refine start_ (n := 11) (S := fun w' => True) (ds := []) (ar 11 0) (by kernel_rfl) rfl rfl trivial (fun hHeld => ?_); refine with_tabW wardenref07_jumps.tab2 wardenref07_jumps.bits2 (fun HT_ HW_ => ?_)
   generalize w6.drew = w16 at BK293 HB hHeld ⊢
   refine pure_ (i := 0) (N := some 6) (v := ?_) (a' := ?_) (ar 11 1) rfl rfl (any_of HT_.out (by kernel_rfl)) (fun _ _ _ h => h) (Or.inl ⟨by rfl, ?_⟩) ?_ ?_
   rotate_left
   ·intro w'
    go_simp
    with_reducible rfl
   rotate_left
   ·simp only [Act.put, q1, q2, q3, i64_w, i32_w]
    rfl
   refine one_ (i := 1) (N := some 7) (ar 11 3) rfl rfl (one_of HT_.out (by kernel_rfl)) (by decide) (fun K hK => ?_)
   refine goes_ Try.func96 (by kernel_rfl) rfl #[.int .u8 t294] (by rfl) rfl rfl (by (try simp only [List.map_toArray, List.map_cons, List.map_nil]); first | done | rfl) ?_
   with_reducible refine (wardenref07_asks.calls t294 false _ A7.out).mono ?_
   rintro e w' ⟨rfl, ⟨nd, rfl⟩⟩
   refine ⟨_, rfl, ?_⟩
   refine hK.out _ _ trivial (fun hHeld => ?_)
   clear hK K
   refine norm_ (a' := ?_) ?_ ?_
   rotate_left
   ·show Act.put _ (some 7) _ = _
    simp only [Act.put, q1, q2, q3, i64_w, i32_w]
    rfl
   refine pure_ (i := 2) (N := some 8) (v := ?_) (a' := ?_) (ar 11 7) rfl rfl (any_of HT_.out (by kernel_rfl)) (fun _ _ _ h => h) (Or.inl ⟨by rfl, ?_⟩) ?_ ?_
   rotate_left
   ·intro w'
    go_simp
    with_reducible rfl
   rotate_left
   ·simp only [Act.put, q1, q2, q3, i64_w, i32_w]
    rfl
   refine pure_ (i := 3) (N := some 9) (v := undef) (a' := ?_) (ar 11 15) rfl rfl (any_of HT_.out (by kernel_rfl)) (fun _ _ _ h => h) (Or.inr ⟨by rfl, rfl⟩) ?_ ?_
   rotate_left
   ·simp only [Act.put, q1, q2, q3, i64_w, i32_w]
    rfl
   refine pure_ (i := 4) (N := some 10) (v := undef) (a' := ?_) (ar 11 31) rfl rfl (any_of HT_.out (by kernel_rfl)) (fun _ _ _ h => h) (Or.inr ⟨by rfl, rfl⟩) ?_ ?_
   rotate_left
   ·simp only [Act.put, q1, q2, q3, i64_w, i32_w]
    rfl
   refine pure_ (i := 5) (N := some 11) (v := undef) (a' := ?_) (ar 11 63) rfl rfl (any_of HT_.out (by kernel_rfl)) (fun _ _ _ h => h) (Or.inr ⟨by rfl, rfl⟩) ?_ ?_
   rotate_left
   ·simp only [Act.put, q1, q2, q3, i64_w, i32_w]
    rfl
   refine pure_ (i := 6) (N := some 12) (v := undef) (a' := ?_) (ar 11 127) rfl rfl (any_of HT_.out (by kernel_rfl)) (fun _ _ _ h => h) (Or.inr ⟨by rfl, rfl⟩) ?_ ?_
   rotate_left
   ·simp only [Act.put, q1, q2, q3, i64_w, i32_w]
    rfl
   refine pure_ (i := 7) (N := some 13) (v := undef) (a' := ?_) (ar 11 255) rfl rfl (any_of HT_.out (by kernel_rfl)) (fun _ _ _ h => h) (Or.inr ⟨by rfl, rfl⟩) ?_ ?_
   rotate_left
   ·simp only [Act.put, q1, q2, q3, i64_w, i32_w]
    rfl
   refine pure_ (i := 8) (N := some 14) (v := undef) (a' := ?_) (ar 11 511) rfl rfl (any_of HT_.out (by kernel_rfl)) (fun _ _ _ h => h) (Or.inr ⟨by rfl, rfl⟩) ?_ ?_
   rotate_left
   ·simp only [Act.put, q1, q2, q3, i64_w, i32_w]
    rfl
   refine pure_ (i := 9) (N := some 15) (v := undef) (a' := ?_) (ar 11 1023) rfl rfl (any_of HT_.out (by kernel_rfl)) (fun _ _ _ h => h) (Or.inr ⟨by rfl, rfl⟩) ?_ ?_
   rotate_left
   ·simp only [Act.put, q1, q2, q3, i64_w, i32_w]
    rfl
   refine pure_ (i := 10) (N := some 16) (v := ?_) (a' := ?_) (ar 11 2047) rfl rfl (any_of HT_.out (by kernel_rfl)) (fun _ _ _ h => h) (Or.inl ⟨by rfl, ?_⟩) ?_ ?_
   rotate_left
   ·intro w'
    go_simp
    with_reducible rfl
   rotate_left
   ·simp only [Act.put, q1, q2, q3, i64_w, i32_w]
    rfl
   refine done_ (done_of HT_.out (by kernel_rfl)) ?_
   try go_wp2
   go_meet
   case rel => exact ⟨_, (false), (by first | rfl | (simp; done) | (simp [*]; done)), H', ⟨by first | omega | exact Nat.le_refl _⟩, ⟨by (with_reducible repeat (first | refine blk_drewN ?_ _ | refine blk_drew ?_ | refine blk_alloc ?_ _)); exact BK293.out⟩, ⟨by repeat (first | (with_reducible first | exact HB.out | apply below_alloc | apply pw_below_drewN | apply below_drew1 | refine below_set ?_ GE293.out) | exact HB.out)⟩⟩
 case rest =>
  clear HC3
  try clear c2
  try clear p2
  try clear c5
  try clear c8
  try clear c9
  try clear hcz5_0
  try clear hcz5_1
  try clear hcz5_2
  try clear hcz5_3
  try clear hcz5_4
  try clear hfz5_0
  try clear hfz5_1
  try clear hfz5_2
  try clear hfz5_3
  try clear hfz5_4
  obtain ⟨kq, x16_2, rfl, HA, HJ2, BK293, HB⟩ := hcut
  cases kq with
  | zero => exact absurd HA.out (by simp [wardenref07_jumps.j0])
  | succ kj2 =>
   have H := HA.out
   clear HA
   simp only [wardenref07_jumps.j0] at H
   by_cases c17 : x16_2 = true
   ·subst c17
    have H1 : (some 5) = some r := by rw [if_pos rfl] at H; exact H
    clear H
    have H := H1
    clear H1
    obtain rfl := Option.some.inj H
    go_wp2
    go_ret
    exact ⟨by first | rfl | (simp [errW_none, errW_some] <;> rfl) | (simp [*, errW_none, errW_some] <;> rfl), by repeat (first | (with_reducible first | exact HB.out | apply below_alloc | apply pw_below_drewN | apply below_drew1 | refine below_set ?_ GE293.out) | exact HB.out)⟩
   ·replace c17 := Bool.eq_false_iff.mpr c17
    subst c17
    have H1 : ((wardenref07_class.f a0_0 a0_1 a0_2 a0_3 a0_4).bind fun t299 => (if t299 = 5 then ((wardenref07_x.f a0_0 a0_1 a0_2 a0_3 a0_4).bind fun t300 => (wardenref07_jumps.j1 kj2 t294 t300 a0_0 a0_1 a0_2 a0_3 a0_4)) else (wardenref07_jumps.j1 kj2 t294 true a0_0 a0_1 a0_2 a0_3 a0_4))) = some r := by rw [if_neg (show ¬ (false = true) by decide)] at H; exact H
    clear H
    have H := H1
    clear H1
    have HC18 := am H
    clear H
    go_upto_region 4 with (fail)
    go_cut [23] (fun v23 wc => ∃ (kq : Nat) (x23_17 : Bool), v23 = .bool x23_17 ∧ Aside0 (wardenref07_jumps.j1 kq t294 x23_17 a0_0 a0_1 a0_2 a0_3 a0_4 = some r) ∧ Aside0 (kq ≤ kj2) ∧ Aside0 (wc.heap[gb293]? = some (.cells #[.int .u8 a0_0, .int .u8 a0_1, .int .u8 a0_2, .int .i16 a0_3, .int .i32 a0_4] 24 (0, 0))) ∧ Aside0 (Below w.heap.size w wc))
    case first =>
     have H := HC18.out
     clear HC18
     replace H := Option.bind_eq_some_iff.mp H
     obtain ⟨t299, A190, H⟩ := H
     try dsimp only at H
     have A19 := am A190
     clear A190
     by_cases c20 : t299 = 5
     ·rw [if_pos c20] at H
      have c20b0 : (t299 == 5) = true := beq_iff_eq.mpr c20
      have c20b1 : (t299 != 5) = false := bne_eq_false_iff_eq.mpr c20
      clear c20
      (first | rw [c20b0] | (simp only [i64_w, i32_w]; rw [c20b0]) | skip)
      replace H := Option.bind_eq_some_iff.mp H
      obtain ⟨t300, A210, H⟩ := H
      try dsimp only at H
      have A21 := am A210
      clear A210
      have H' := am H
      clear H
      have hcz22_0 : wc.cell? ⟨gb293, 0, none⟩ = some (.int .u8 a0_0) := (blk_cell BK293.out 0).trans rfl
      have hcz22_1 : wc.cell? ⟨gb293, 1, none⟩ = some (.int .u8 a0_1) := (blk_cell BK293.out 1).trans rfl
      have hcz22_2 : wc.cell? ⟨gb293, 2, none⟩ = some (.int .u8 a0_2) := (blk_cell BK293.out 2).trans rfl
      have hcz22_3 : wc.cell? ⟨gb293, 3, none⟩ = some (.int .i16 a0_3) := (blk_cell BK293.out 3).trans rfl
      have hcz22_4 : wc.cell? ⟨gb293, 4, none⟩ = some (.int .i32 a0_4) := (blk_cell BK293.out 4).trans rfl
      have hfz22_0 := blk_frozen BK293.out 0
      have hfz22_1 := blk_frozen BK293.out 1
      have hfz22_2 := blk_frozen BK293.out 2
      have hfz22_3 := blk_frozen BK293.out 3
      have hfz22_4 := blk_frozen BK293.out 4
      go_wp2_with (first | ((with_reducible refine gate_callee (f := 54) rfl ?_); refine goesL_ (some 18) rfl rfl Try.func54 (by kernel_rfl) rfl #[.agg #[.int .u8 a0_0, .int .u8 a0_1, .int .u8 a0_2, .int .i16 a0_3, .int .i32 a0_4]] rfl (by (try simp only [List.map_toArray, List.map_cons, List.map_nil]); first | done | rfl) ?_; (with_reducible refine (wardenref07_class.calls a0_0 a0_1 a0_2 a0_3 a0_4 t299 _ A19.out).mono ?_); rintro e w23 ⟨rfl, hb⟩; refine ⟨_, rfl, ?_⟩; have n0_ := am (blk_below (g := gb293) (o := .cells #[.int .u8 a0_0, .int .u8 a0_1, .int .u8 a0_2, .int .i16 a0_3, .int .i32 a0_4] 24 (0, 0)) (by first | exact BK293.out | exact blk_drewN BK293.out _) hb); have n1_ := am (below_step (by repeat (first | exact HB.out | apply pb | apply pa | apply pd | refine below_set ?_ GE293.out)) hb); clear BK293; clear HB; have BK293 := n0_; have HB := n1_; clear n0_ n1_; (try clear hb); (try clear hb2); (try clear hk); (try clear hi); have hcz24_0 : w23.cell? ⟨gb293, 0, none⟩ = some (.int .u8 a0_0) := (blk_cell BK293.out 0).trans rfl; have hcz24_1 : w23.cell? ⟨gb293, 1, none⟩ = some (.int .u8 a0_1) := (blk_cell BK293.out 1).trans rfl; have hcz24_2 : w23.cell? ⟨gb293, 2, none⟩ = some (.int .u8 a0_2) := (blk_cell BK293.out 2).trans rfl; have hcz24_3 : w23.cell? ⟨gb293, 3, none⟩ = some (.int .i16 a0_3) := (blk_cell BK293.out 3).trans rfl; have hcz24_4 : w23.cell? ⟨gb293, 4, none⟩ = some (.int .i32 a0_4) := (blk_cell BK293.out 4).trans rfl; have hfz24_0 := blk_frozen BK293.out 0; have hfz24_1 := blk_frozen BK293.out 1; have hfz24_2 := blk_frozen BK293.out 2; have hfz24_3 := blk_frozen BK293.out 3; have hfz24_4 := blk_frozen BK293.out 4) | (go_at_call 55; (with_reducible refine (wardenref07_x.calls a0_0 a0_1 a0_2 a0_3 a0_4 t300 _ A21.out).mono ?_); rintro e w25 ⟨rfl, hb⟩; have n0_ := am (blk_below (g := gb293) (o := .cells #[.int .u8 a0_0, .int .u8 a0_1, .int .u8 a0_2, .int .i16 a0_3, .int .i32 a0_4] 24 (0, 0)) (by first | exact BK293.out | exact blk_drewN BK293.out _) hb); have n1_ := am (below_step (by repeat (first | exact HB.out | apply pb | apply pa | apply pd | refine below_set ?_ GE293.out)) hb); clear BK293; clear HB; have BK293 := n0_; have HB := n1_; clear n0_ n1_; (try clear hb); (try clear hb2); (try clear hk); (try clear hi)))
      go_meet
      case rel => exact ⟨_, (t300), (by first | rfl | (simp; done) | (simp [*]; done)), H', ⟨by have := HJ2.out; first | omega | exact Nat.le_refl _⟩, ⟨by (with_reducible repeat (first | refine blk_drewN ?_ _ | refine blk_drew ?_ | refine blk_alloc ?_ _)); exact BK293.out⟩, ⟨by repeat (first | (with_reducible first | exact HB.out | apply below_alloc | apply pw_below_drewN | apply below_drew1 | refine below_set ?_ GE293.out) | exact HB.out)⟩⟩
     ·rw [if_neg c20] at H
      have c20b0 : (t299 == 5) = false := beq_eq_false_iff_ne.mpr c20
      have c20b1 : (t299 != 5) = true := bne_iff_ne.mpr c20
      (first | rw [c20b0] | (simp only [i64_w, i32_w]; rw [c20b0]) | skip)
      have H' := am H
      clear H
      have hcz26_0 : wc.cell? ⟨gb293, 0, none⟩ = some (.int .u8 a0_0) := (blk_cell BK293.out 0).trans rfl
      have hcz26_1 : wc.cell? ⟨gb293, 1, none⟩ = some (.int .u8 a0_1) := (blk_cell BK293.out 1).trans rfl
      have hcz26_2 : wc.cell? ⟨gb293, 2, none⟩ = some (.int .u8 a0_2) := (blk_cell BK293.out 2).trans rfl
      have hcz26_3 : wc.cell? ⟨gb293, 3, none⟩ = some (.int .i16 a0_3) := (blk_cell BK293.out 3).trans rfl
      have hcz26_4 : wc.cell? ⟨gb293, 4, none⟩ = some (.int .i32 a0_4) := (blk_cell BK293.out 4).trans rfl
      have hfz26_0 := blk_frozen BK293.out 0
      have hfz26_1 := blk_frozen BK293.out 1
      have hfz26_2 := blk_frozen BK293.out 2
      have hfz26_3 := blk_frozen BK293.out 3
      have hfz26_4 := blk_frozen BK293.out 4
      go_wp2_with (first | ((with_reducible refine gate_callee (f := 54) rfl ?_); refine goesL_ (some 18) rfl rfl Try.func54 (by kernel_rfl) rfl #[.agg #[.int .u8 a0_0, .int .u8 a0_1, .int .u8 a0_2, .int .i16 a0_3, .int .i32 a0_4]] rfl (by (try simp only [List.map_toArray, List.map_cons, List.map_nil]); first | done | rfl) ?_; (with_reducible refine (wardenref07_class.calls a0_0 a0_1 a0_2 a0_3 a0_4 t299 _ A19.out).mono ?_); rintro e w27 ⟨rfl, hb⟩; refine ⟨_, rfl, ?_⟩; have n0_ := am (blk_below (g := gb293) (o := .cells #[.int .u8 a0_0, .int .u8 a0_1, .int .u8 a0_2, .int .i16 a0_3, .int .i32 a0_4] 24 (0, 0)) (by first | exact BK293.out | exact blk_drewN BK293.out _) hb); have n1_ := am (below_step (by repeat (first | exact HB.out | apply pb | apply pa | apply pd | refine below_set ?_ GE293.out)) hb); clear BK293; clear HB; have BK293 := n0_; have HB := n1_; clear n0_ n1_; (try clear hb); (try clear hb2); (try clear hk); (try clear hi)))
      go_meet
      case rel => exact ⟨_, (true), (by first | rfl | (simp; done) | (simp [*]; done)), H', ⟨by have := HJ2.out; first | omega | exact Nat.le_refl _⟩, ⟨by (with_reducible repeat (first | refine blk_drewN ?_ _ | refine blk_drew ?_ | refine blk_alloc ?_ _)); exact BK293.out⟩, ⟨by repeat (first | (with_reducible first | exact HB.out | apply below_alloc | apply pw_below_drewN | apply below_drew1 | refine below_set ?_ GE293.out) | exact HB.out)⟩⟩
    case rest =>
     clear HC18
     try clear c1
     try clear c2
     try clear p2
     try clear c5
     try clear c8
     try clear c9
     try clear c17
     try clear c20
     try clear c20b0
     try clear c20b1
     try clear c22
     try clear hcz22_0
     try clear hcz22_1
     try clear hcz22_2
     try clear hcz22_3
     try clear hcz22_4
     try clear hcz24_0
     try clear hcz24_1
     try clear hcz24_2
     try clear hcz24_3
     try clear hcz24_4
     try clear hcz26_0
     try clear hcz26_1
     try clear hcz26_2
     try clear hcz26_3
     try clear hcz26_4
     try clear hcz5_0
     try clear hcz5_1
     try clear hcz5_2
     try clear hcz5_3
     try clear hcz5_4
     try clear hfz22_0
     try clear hfz22_1
     try clear hfz22_2
     try clear hfz22_3
     try clear hfz22_4
     try clear hfz24_0
     try clear hfz24_1
     try clear hfz24_2
     try clear hfz24_3
     try clear hfz24_4
     try clear hfz26_0
     try clear hfz26_1
     try clear hfz26_2
     try clear hfz26_3
     try clear hfz26_4
     try clear hfz5_0
     try clear hfz5_1
     try clear hfz5_2
     try clear hfz5_3
     try clear hfz5_4
     try clear p2
     obtain ⟨kq, x23_17, rfl, HA, HJ17, BK293, HB⟩ := hcut
     cases kq with
     | zero => exact absurd HA.out (by simp [wardenref07_jumps.j1])
     | succ kj17 =>
      have H := HA.out
      clear HA
      simp only [wardenref07_jumps.j1] at H
      by_cases c28 : x23_17 = true
      ·subst c28
       have H1 : (some 0) = some r := by rw [if_pos rfl] at H; exact H
       clear H
       have H := H1
       clear H1
       obtain rfl := Option.some.inj H
       go_wp2
       go_ret
       exact ⟨by first | rfl | (simp [errW_none, errW_some] <;> rfl) | (simp [*, errW_none, errW_some] <;> rfl), by repeat (first | (with_reducible first | exact HB.out | apply below_alloc | apply pw_below_drewN | apply below_drew1 | refine below_set ?_ GE293.out) | exact HB.out)⟩
      ·replace c28 := Bool.eq_false_iff.mpr c28
       subst c28
       have H1 : (if t294 = 0 then ((wardenref07_is.f a0_0 a0_1 a0_2 a0_3 a0_4 false false true false).bind fun t301 => (wardenref07_jumps.j2 kj17 t294 t301 a0_0 a0_1 a0_2 a0_3 a0_4)) else (wardenref07_jumps.j2 kj17 t294 false a0_0 a0_1 a0_2 a0_3 a0_4)) = some r := by rw [if_neg (show ¬ (false = true) by decide)] at H; exact H
       clear H
       have H := H1
       clear H1
       have HC29 := am H
       clear H
       go_upto_region 6 with (fail)
       go_cut [24] (fun v24 wc => ∃ (kq : Nat) (x24_28 : Bool), v24 = .bool x24_28 ∧ Aside0 (wardenref07_jumps.j2 kq t294 x24_28 a0_0 a0_1 a0_2 a0_3 a0_4 = some r) ∧ Aside0 (kq ≤ kj17) ∧ Aside0 (wc.heap[gb293]? = some (.cells #[.int .u8 a0_0, .int .u8 a0_1, .int .u8 a0_2, .int .i16 a0_3, .int .i32 a0_4] 24 (0, 0))) ∧ Aside0 (Below w.heap.size w wc))
       case first =>
        have H := HC29.out
        clear HC29
        by_cases c30 : t294 = 0
        ·rw [if_pos c30] at H
         have c30b0 : (t294 == 0) = true := beq_iff_eq.mpr c30
         have c30b1 : (t294 != 0) = false := bne_eq_false_iff_eq.mpr c30
         clear c30
         (first | rw [c30b0] | (simp only [i64_w, i32_w]; rw [c30b0]) | skip)
         replace H := Option.bind_eq_some_iff.mp H
         obtain ⟨t301, A310, H⟩ := H
         try dsimp only at H
         have A31 := am A310
         clear A310
         have H' := am H
         clear H
         have hcz32_0 : wc.cell? ⟨gb293, 0, none⟩ = some (.int .u8 a0_0) := (blk_cell BK293.out 0).trans rfl
         have hcz32_1 : wc.cell? ⟨gb293, 1, none⟩ = some (.int .u8 a0_1) := (blk_cell BK293.out 1).trans rfl
         have hcz32_2 : wc.cell? ⟨gb293, 2, none⟩ = some (.int .u8 a0_2) := (blk_cell BK293.out 2).trans rfl
         have hcz32_3 : wc.cell? ⟨gb293, 3, none⟩ = some (.int .i16 a0_3) := (blk_cell BK293.out 3).trans rfl
         have hcz32_4 : wc.cell? ⟨gb293, 4, none⟩ = some (.int .i32 a0_4) := (blk_cell BK293.out 4).trans rfl
         have hfz32_0 := blk_frozen BK293.out 0
         have hfz32_1 := blk_frozen BK293.out 1
         have hfz32_2 := blk_frozen BK293.out 2
         have hfz32_3 := blk_frozen BK293.out 3
         have hfz32_4 := blk_frozen BK293.out 4
         go_wp2_with (first | (go_at_call 56; (with_reducible refine (wardenref07_is.calls a0_0 a0_1 a0_2 a0_3 a0_4 false false true false t301 _ A31.out).mono ?_); rintro e w33 ⟨rfl, hb⟩; have n0_ := am (blk_below (g := gb293) (o := .cells #[.int .u8 a0_0, .int .u8 a0_1, .int .u8 a0_2, .int .i16 a0_3, .int .i32 a0_4] 24 (0, 0)) (by first | exact BK293.out | exact blk_drewN BK293.out _) hb); have n1_ := am (below_step (by repeat (first | exact HB.out | apply pb | apply pa | apply pd | refine below_set ?_ GE293.out)) hb); clear BK293; clear HB; have BK293 := n0_; have HB := n1_; clear n0_ n1_; (try clear hb); (try clear hb2); (try clear hk); (try clear hi)))
         go_meet
         case rel => exact ⟨_, (t301), (by first | rfl | (simp; done) | (simp [*]; done)), H', ⟨by have := HJ2.out; have := HJ17.out; first | omega | exact Nat.le_refl _⟩, ⟨by (with_reducible repeat (first | refine blk_drewN ?_ _ | refine blk_drew ?_ | refine blk_alloc ?_ _)); exact BK293.out⟩, ⟨by repeat (first | (with_reducible first | exact HB.out | apply below_alloc | apply pw_below_drewN | apply below_drew1 | refine below_set ?_ GE293.out) | exact HB.out)⟩⟩
        ·rw [if_neg c30] at H
         have c30b0 : (t294 == 0) = false := beq_eq_false_iff_ne.mpr c30
         have c30b1 : (t294 != 0) = true := bne_iff_ne.mpr c30
         (first | rw [c30b0] | (simp only [i64_w, i32_w]; rw [c30b0]) | skip)
         have H' := am H
         clear H
         go_wp2
         go_meet
         case rel => exact ⟨_, (false), (by first | rfl | (simp; done) | (simp [*]; done)), H', ⟨by have := HJ2.out; have := HJ17.out; first | omega | exact Nat.le_refl _⟩, ⟨by (with_reducible repeat (first | refine blk_drewN ?_ _ | refine blk_drew ?_ | refine blk_alloc ?_ _)); exact BK293.out⟩, ⟨by repeat (first | (with_reducible first | exact HB.out | apply below_alloc | apply pw_below_drewN | apply below_drew1 | refine below_set ?_ GE293.out) | exact HB.out)⟩⟩
       case rest =>
        clear HC29
        try clear c1
        try clear c2
        try clear p2
        try clear c3
        try clear c5
        try clear c8
        try clear c9
        try clear c17
        try clear c20
        try clear c20b0
        try clear c20b1
        try clear c22
        try clear c28
        try clear c30
        try clear c30b0
        try clear c30b1
        try clear hcz22_0
        try clear hcz22_1
        try clear hcz22_2
        try clear hcz22_3
        try clear hcz22_4
        try clear hcz24_0
        try clear hcz24_1
        try clear hcz24_2
        try clear hcz24_3
        try clear hcz24_4
        try clear hcz26_0
        try clear hcz26_1
        try clear hcz26_2
        try clear hcz26_3
        try clear hcz26_4
        try clear hcz32_0
        try clear hcz32_1
        try clear hcz32_2
        try clear hcz32_3
        try clear hcz32_4
        try clear hcz5_0
        try clear hcz5_1
        try clear hcz5_2
        try clear hcz5_3
        try clear hcz5_4
        try clear hfz22_0
        try clear hfz22_1
        try clear hfz22_2
        try clear hfz22_3
        try clear hfz22_4
        try clear hfz24_0
        try clear hfz24_1
        try clear hfz24_2
        try clear hfz24_3
        try clear hfz24_4
        try clear hfz26_0
        try clear hfz26_1
        try clear hfz26_2
        try clear hfz26_3
        try clear hfz26_4
        try clear hfz32_0
        try clear hfz32_1
        try clear hfz32_2
        try clear hfz32_3
        try clear hfz32_4
        try clear hfz5_0
        try clear hfz5_1
        try clear hfz5_2
        try clear hfz5_3
        try clear hfz5_4
        try clear p2
        obtain ⟨kq, x24_28, rfl, HA, HJ28, BK293, HB⟩ := hcut
        cases kq with
        | zero => exact absurd HA.out (by simp [wardenref07_jumps.j2])
        | succ kj28 =>
         have H := HA.out
         clear HA
         simp only [wardenref07_jumps.j2] at H
         by_cases c34 : x24_28 = true
         ·subst c34
          have H1 : (some 10) = some r := by rw [if_pos rfl] at H; exact H
          clear H
          have H := H1
          clear H1
          obtain rfl := Option.some.inj H
          go_wp2
          go_ret
          exact ⟨by first | rfl | (simp [errW_none, errW_some] <;> rfl) | (simp [*, errW_none, errW_some] <;> rfl), by repeat (first | (with_reducible first | exact HB.out | apply below_alloc | apply pw_below_drewN | apply below_drew1 | refine below_set ?_ GE293.out) | exact HB.out)⟩
         ·replace c34 := Bool.eq_false_iff.mpr c34
          subst c34
          have H1 : (if t294 = 9 then ((wardenref07_is.f a0_0 a0_1 a0_2 a0_3 a0_4 false false false false).bind fun t302 => (wardenref07_jumps.j3 kj28 t294 t302 a0_0 a0_1 a0_2 a0_3 a0_4)) else (wardenref07_jumps.j3 kj28 t294 false a0_0 a0_1 a0_2 a0_3 a0_4)) = some r := by rw [if_neg (show ¬ (false = true) by decide)] at H; exact H
          clear H
          have H := H1
          clear H1
          have HC35 := am H
          clear H
          go_upto_region 8 with (fail)
          go_cut [31] (fun v31 wc => ∃ (kq : Nat) (x31_34 : Bool), v31 = .bool x31_34 ∧ Aside0 (wardenref07_jumps.j3 kq t294 x31_34 a0_0 a0_1 a0_2 a0_3 a0_4 = some r) ∧ Aside0 (kq ≤ kj28) ∧ Aside0 (wc.heap[gb293]? = some (.cells #[.int .u8 a0_0, .int .u8 a0_1, .int .u8 a0_2, .int .i16 a0_3, .int .i32 a0_4] 24 (0, 0))) ∧ Aside0 (Below w.heap.size w wc))
          case first =>
           have H := HC35.out
           clear HC35
           by_cases c36 : t294 = 9
           ·rw [if_pos c36] at H
            have c36b0 : (t294 == 9) = true := beq_iff_eq.mpr c36
            have c36b1 : (t294 != 9) = false := bne_eq_false_iff_eq.mpr c36
            clear c36
            (first | rw [c36b0] | (simp only [i64_w, i32_w]; rw [c36b0]) | skip)
            replace H := Option.bind_eq_some_iff.mp H
            obtain ⟨t302, A370, H⟩ := H
            try dsimp only at H
            have A37 := am A370
            clear A370
            have H' := am H
            clear H
            have hcz38_0 : wc.cell? ⟨gb293, 0, none⟩ = some (.int .u8 a0_0) := (blk_cell BK293.out 0).trans rfl
            have hcz38_1 : wc.cell? ⟨gb293, 1, none⟩ = some (.int .u8 a0_1) := (blk_cell BK293.out 1).trans rfl
            have hcz38_2 : wc.cell? ⟨gb293, 2, none⟩ = some (.int .u8 a0_2) := (blk_cell BK293.out 2).trans rfl
            have hcz38_3 : wc.cell? ⟨gb293, 3, none⟩ = some (.int .i16 a0_3) := (blk_cell BK293.out 3).trans rfl
            have hcz38_4 : wc.cell? ⟨gb293, 4, none⟩ = some (.int .i32 a0_4) := (blk_cell BK293.out 4).trans rfl
            have hfz38_0 := blk_frozen BK293.out 0
            have hfz38_1 := blk_frozen BK293.out 1
            have hfz38_2 := blk_frozen BK293.out 2
            have hfz38_3 := blk_frozen BK293.out 3
            have hfz38_4 := blk_frozen BK293.out 4
            go_wp2_with (first | (go_at_call 56; (with_reducible refine (wardenref07_is.calls a0_0 a0_1 a0_2 a0_3 a0_4 false false false false t302 _ A37.out).mono ?_); rintro e w39 ⟨rfl, hb⟩; have n0_ := am (blk_below (g := gb293) (o := .cells #[.int .u8 a0_0, .int .u8 a0_1, .int .u8 a0_2, .int .i16 a0_3, .int .i32 a0_4] 24 (0, 0)) (by first | exact BK293.out | exact blk_drewN BK293.out _) hb); have n1_ := am (below_step (by repeat (first | exact HB.out | apply pb | apply pa | apply pd | refine below_set ?_ GE293.out)) hb); clear BK293; clear HB; have BK293 := n0_; have HB := n1_; clear n0_ n1_; (try clear hb); (try clear hb2); (try clear hk); (try clear hi)))
            go_meet
            case rel => exact ⟨_, (t302), (by first | rfl | (simp; done) | (simp [*]; done)), H', ⟨by have := HJ2.out; have := HJ17.out; have := HJ28.out; first | omega | exact Nat.le_refl _⟩, ⟨by (with_reducible repeat (first | refine blk_drewN ?_ _ | refine blk_drew ?_ | refine blk_alloc ?_ _)); exact BK293.out⟩, ⟨by repeat (first | (with_reducible first | exact HB.out | apply below_alloc | apply pw_below_drewN | apply below_drew1 | refine below_set ?_ GE293.out) | exact HB.out)⟩⟩
           ·rw [if_neg c36] at H
            have c36b0 : (t294 == 9) = false := beq_eq_false_iff_ne.mpr c36
            have c36b1 : (t294 != 9) = true := bne_iff_ne.mpr c36
            (first | rw [c36b0] | (simp only [i64_w, i32_w]; rw [c36b0]) | skip)
            have H' := am H
            clear H
            go_wp2
            go_meet
            case rel => exact ⟨_, (false), (by first | rfl | (simp; done) | (simp [*]; done)), H', ⟨by have := HJ2.out; have := HJ17.out; have := HJ28.out; first | omega | exact Nat.le_refl _⟩, ⟨by (with_reducible repeat (first | refine blk_drewN ?_ _ | refine blk_drew ?_ | refine blk_alloc ?_ _)); exact BK293.out⟩, ⟨by repeat (first | (with_reducible first | exact HB.out | apply below_alloc | apply pw_below_drewN | apply below_drew1 | refine below_set ?_ GE293.out) | exact HB.out)⟩⟩
          case rest =>
           clear HC35
           try clear c1
           try clear c2
           try clear p2
           try clear c3
           try clear c5
           try clear c8
           try clear c9
           try clear c17
           try clear c20
           try clear c20b0
           try clear c20b1
           try clear c22
           try clear c28
           try clear c30
           try clear c30b0
           try clear c30b1
           try clear c34
           try clear c36
           try clear c36b0
           try clear c36b1
           try clear hcz22_0
           try clear hcz22_1
           try clear hcz22_2
           try clear hcz22_3
           try clear hcz22_4
           try clear hcz24_0
           try clear hcz24_1
           try clear hcz24_2
           try clear hcz24_3
           try clear hcz24_4
           try clear hcz26_0
           try clear hcz26_1
           try clear hcz26_2
           try clear hcz26_3
           try clear hcz26_4
           try clear hcz32_0
           try clear hcz32_1
           try clear hcz32_2
           try clear hcz32_3
           try clear hcz32_4
           try clear hcz38_0
           try clear hcz38_1
           try clear hcz38_2
           try clear hcz38_3
           try clear hcz38_4
           try clear hcz5_0
           try clear hcz5_1
           try clear hcz5_2
           try clear hcz5_3
           try clear hcz5_4
           try clear hfz22_0
           try clear hfz22_1
           try clear hfz22_2
           try clear hfz22_3
           try clear hfz22_4
           try clear hfz24_0
           try clear hfz24_1
           try clear hfz24_2
           try clear hfz24_3
           try clear hfz24_4
           try clear hfz26_0
           try clear hfz26_1
           try clear hfz26_2
           try clear hfz26_3
           try clear hfz26_4
           try clear hfz32_0
           try clear hfz32_1
           try clear hfz32_2
           try clear hfz32_3
           try clear hfz32_4
           try clear hfz38_0
           try clear hfz38_1
           try clear hfz38_2
           try clear hfz38_3
           try clear hfz38_4
           try clear hfz5_0
           try clear hfz5_1
           try clear hfz5_2
           try clear hfz5_3
           try clear hfz5_4
           try clear p2
           obtain ⟨kq, x31_34, rfl, HA, HJ34, BK293, HB⟩ := hcut
           cases kq with
           | zero => exact absurd HA.out (by simp [wardenref07_jumps.j3])
           | succ kj34 =>
            have H := HA.out
            clear HA
            simp only [wardenref07_jumps.j3] at H
            by_cases c40 : x31_34 = true
            ·subst c40
             have H1 : (some 8) = some r := by rw [if_pos rfl] at H; exact H
             clear H
             have H := H1
             clear H1
             obtain rfl := Option.some.inj H
             go_wp2
             go_ret
             exact ⟨by first | rfl | (simp [errW_none, errW_some] <;> rfl) | (simp [*, errW_none, errW_some] <;> rfl), by repeat (first | (with_reducible first | exact HB.out | apply below_alloc | apply pw_below_drewN | apply below_drew1 | refine below_set ?_ GE293.out) | exact HB.out)⟩
            ·replace c40 := Bool.eq_false_iff.mpr c40
             subst c40
             have H1 : (if t294 = 8 then ((wardenref07_is.f a0_0 a0_1 a0_2 a0_3 a0_4 false true false true).bind fun t303 => (if t303 = true then (wardenref07_jumps.j4 kj34 t294 (a0_2 == 0) a0_0 a0_1 a0_2 a0_3 a0_4) else (wardenref07_jumps.j4 kj34 t294 false a0_0 a0_1 a0_2 a0_3 a0_4))) else (wardenref07_jumps.j4 kj34 t294 false a0_0 a0_1 a0_2 a0_3 a0_4)) = some r := by rw [if_neg (show ¬ (false = true) by decide)] at H; exact H
             clear H
             have H := H1
             clear H1
             have HC41 := am H
             clear H
             go_upto_region 10 with (fail)
             go_cut [38] (fun v38 wc => ∃ (kq : Nat) (x38_40 : Bool), v38 = .bool x38_40 ∧ Aside0 (wardenref07_jumps.j4 kq t294 x38_40 a0_0 a0_1 a0_2 a0_3 a0_4 = some r) ∧ Aside0 (kq ≤ kj34) ∧ Aside0 (wc.heap[gb293]? = some (.cells #[.int .u8 a0_0, .int .u8 a0_1, .int .u8 a0_2, .int .i16 a0_3, .int .i32 a0_4] 24 (0, 0))) ∧ Aside0 (Below w.heap.size w wc))
             case first =>
              have H := HC41.out
              clear HC41
              by_cases c42 : t294 = 8
              ·rw [if_pos c42] at H
               have c42b0 : (t294 == 8) = true := beq_iff_eq.mpr c42
               have c42b1 : (t294 != 8) = false := bne_eq_false_iff_eq.mpr c42
               clear c42
               (first | rw [c42b0] | (simp only [i64_w, i32_w]; rw [c42b0]) | skip)
               replace H := Option.bind_eq_some_iff.mp H
               obtain ⟨t303, A430, H⟩ := H
               try dsimp only at H
               have A43 := am A430
               clear A430
               by_cases c44 : t303 = true
               ·subst c44
                have H1 : (wardenref07_jumps.j4 kj34 t294 (a0_2 == 0) a0_0 a0_1 a0_2 a0_3 a0_4) = some r := by rw [if_pos rfl] at H; exact H
                clear H
                have H := H1
                clear H1
                have H' := am H
                clear H
                have hcz45_0 : wc.cell? ⟨gb293, 0, none⟩ = some (.int .u8 a0_0) := (blk_cell BK293.out 0).trans rfl
                have hcz45_1 : wc.cell? ⟨gb293, 1, none⟩ = some (.int .u8 a0_1) := (blk_cell BK293.out 1).trans rfl
                have hcz45_2 : wc.cell? ⟨gb293, 2, none⟩ = some (.int .u8 a0_2) := (blk_cell BK293.out 2).trans rfl
                have hcz45_3 : wc.cell? ⟨gb293, 3, none⟩ = some (.int .i16 a0_3) := (blk_cell BK293.out 3).trans rfl
                have hcz45_4 : wc.cell? ⟨gb293, 4, none⟩ = some (.int .i32 a0_4) := (blk_cell BK293.out 4).trans rfl
                have hfz45_0 := blk_frozen BK293.out 0
                have hfz45_1 := blk_frozen BK293.out 1
                have hfz45_2 := blk_frozen BK293.out 2
                have hfz45_3 := blk_frozen BK293.out 3
                have hfz45_4 := blk_frozen BK293.out 4
                go_wp2_with (first | (go_at_call 56; (with_reducible refine (wardenref07_is.calls a0_0 a0_1 a0_2 a0_3 a0_4 false true false true true _ A43.out).mono ?_); rintro e w46 ⟨rfl, hb⟩; have n0_ := am (blk_below (g := gb293) (o := .cells #[.int .u8 a0_0, .int .u8 a0_1, .int .u8 a0_2, .int .i16 a0_3, .int .i32 a0_4] 24 (0, 0)) (by first | exact BK293.out | exact blk_drewN BK293.out _) hb); have n1_ := am (below_step (by repeat (first | exact HB.out | apply pb | apply pa | apply pd | refine below_set ?_ GE293.out)) hb); clear BK293; clear HB; have BK293 := n0_; have HB := n1_; clear n0_ n1_; (try clear hb); (try clear hb2); (try clear hk); (try clear hi); have hcz47_0 : w46.cell? ⟨gb293, 0, none⟩ = some (.int .u8 a0_0) := (blk_cell BK293.out 0).trans rfl; have hcz47_1 : w46.cell? ⟨gb293, 1, none⟩ = some (.int .u8 a0_1) := (blk_cell BK293.out 1).trans rfl; have hcz47_2 : w46.cell? ⟨gb293, 2, none⟩ = some (.int .u8 a0_2) := (blk_cell BK293.out 2).trans rfl; have hcz47_3 : w46.cell? ⟨gb293, 3, none⟩ = some (.int .i16 a0_3) := (blk_cell BK293.out 3).trans rfl; have hcz47_4 : w46.cell? ⟨gb293, 4, none⟩ = some (.int .i32 a0_4) := (blk_cell BK293.out 4).trans rfl; have hfz47_0 := blk_frozen BK293.out 0; have hfz47_1 := blk_frozen BK293.out 1; have hfz47_2 := blk_frozen BK293.out 2; have hfz47_3 := blk_frozen BK293.out 3; have hfz47_4 := blk_frozen BK293.out 4))
                go_meet
                case rel => exact ⟨_, ((a0_2 == 0)), (by first | rfl | (simp; done) | (simp [*]; done)), H', ⟨by have := HJ2.out; have := HJ17.out; have := HJ28.out; have := HJ34.out; first | omega | exact Nat.le_refl _⟩, ⟨by (with_reducible repeat (first | refine blk_drewN ?_ _ | refine blk_drew ?_ | refine blk_alloc ?_ _)); exact BK293.out⟩, ⟨by repeat (first | (with_reducible first | exact HB.out | apply below_alloc | apply pw_below_drewN | apply below_drew1 | refine below_set ?_ GE293.out) | exact HB.out)⟩⟩
               ·replace c44 := Bool.eq_false_iff.mpr c44
                subst c44
                have H1 : (wardenref07_jumps.j4 kj34 t294 false a0_0 a0_1 a0_2 a0_3 a0_4) = some r := by rw [if_neg (show ¬ (false = true) by decide)] at H; exact H
                clear H
                have H := H1
                clear H1
                have H' := am H
                clear H
                have hcz48_0 : wc.cell? ⟨gb293, 0, none⟩ = some (.int .u8 a0_0) := (blk_cell BK293.out 0).trans rfl
                have hcz48_1 : wc.cell? ⟨gb293, 1, none⟩ = some (.int .u8 a0_1) := (blk_cell BK293.out 1).trans rfl
                have hcz48_2 : wc.cell? ⟨gb293, 2, none⟩ = some (.int .u8 a0_2) := (blk_cell BK293.out 2).trans rfl
                have hcz48_3 : wc.cell? ⟨gb293, 3, none⟩ = some (.int .i16 a0_3) := (blk_cell BK293.out 3).trans rfl
                have hcz48_4 : wc.cell? ⟨gb293, 4, none⟩ = some (.int .i32 a0_4) := (blk_cell BK293.out 4).trans rfl
                have hfz48_0 := blk_frozen BK293.out 0
                have hfz48_1 := blk_frozen BK293.out 1
                have hfz48_2 := blk_frozen BK293.out 2
                have hfz48_3 := blk_frozen BK293.out 3
                have hfz48_4 := blk_frozen BK293.out 4
                go_wp2_with (first | (go_at_call 56; (with_reducible refine (wardenref07_is.calls a0_0 a0_1 a0_2 a0_3 a0_4 false true false true false _ A43.out).mono ?_); rintro e w49 ⟨rfl, hb⟩; have n0_ := am (blk_below (g := gb293) (o := .cells #[.int .u8 a0_0, .int .u8 a0_1, .int .u8 a0_2, .int .i16 a0_3, .int .i32 a0_4] 24 (0, 0)) (by first | exact BK293.out | exact blk_drewN BK293.out _) hb); have n1_ := am (below_step (by repeat (first | exact HB.out | apply pb | apply pa | apply pd | refine below_set ?_ GE293.out)) hb); clear BK293; clear HB; have BK293 := n0_; have HB := n1_; clear n0_ n1_; (try clear hb); (try clear hb2); (try clear hk); (try clear hi)))
                go_meet
                case rel => exact ⟨_, (false), (by first | rfl | (simp; done) | (simp [*]; done)), H', ⟨by have := HJ2.out; have := HJ17.out; have := HJ28.out; have := HJ34.out; first | omega | exact Nat.le_refl _⟩, ⟨by (with_reducible repeat (first | refine blk_drewN ?_ _ | refine blk_drew ?_ | refine blk_alloc ?_ _)); exact BK293.out⟩, ⟨by repeat (first | (with_reducible first | exact HB.out | apply below_alloc | apply pw_below_drewN | apply below_drew1 | refine below_set ?_ GE293.out) | exact HB.out)⟩⟩
              ·rw [if_neg c42] at H
               have c42b0 : (t294 == 8) = false := beq_eq_false_iff_ne.mpr c42
               have c42b1 : (t294 != 8) = true := bne_iff_ne.mpr c42
               (first | rw [c42b0] | (simp only [i64_w, i32_w]; rw [c42b0]) | skip)
               have H' := am H
               clear H
               go_wp2
               go_meet
               case rel => exact ⟨_, (false), (by first | rfl | (simp; done) | (simp [*]; done)), H', ⟨by have := HJ2.out; have := HJ17.out; have := HJ28.out; have := HJ34.out; first | omega | exact Nat.le_refl _⟩, ⟨by (with_reducible repeat (first | refine blk_drewN ?_ _ | refine blk_drew ?_ | refine blk_alloc ?_ _)); exact BK293.out⟩, ⟨by repeat (first | (with_reducible first | exact HB.out | apply below_alloc | apply pw_below_drewN | apply below_drew1 | refine below_set ?_ GE293.out) | exact HB.out)⟩⟩
             case rest =>
              clear HC41
              try clear c1
              try clear c2
              try clear p2
              try clear c3
              try clear c4
              try clear c5
              try clear c8
              try clear c9
              try clear c17
              try clear c20
              try clear c20b0
              try clear c20b1
              try clear c22
              try clear c28
              try clear c30
              try clear c30b0
              try clear c30b1
              try clear c34
              try clear c36
              try clear c36b0
              try clear c36b1
              try clear c40
              try clear c42
              try clear c42b0
              try clear c42b1
              try clear c44
              try clear hcz22_0
              try clear hcz22_1
              try clear hcz22_2
              try clear hcz22_3
              try clear hcz22_4
              try clear hcz24_0
              try clear hcz24_1
              try clear hcz24_2
              try clear hcz24_3
              try clear hcz24_4
              try clear hcz26_0
              try clear hcz26_1
              try clear hcz26_2
              try clear hcz26_3
              try clear hcz26_4
              try clear hcz32_0
              try clear hcz32_1
              try clear hcz32_2
              try clear hcz32_3
              try clear hcz32_4
              try clear hcz38_0
              try clear hcz38_1
              try clear hcz38_2
              try clear hcz38_3
              try clear hcz38_4
              try clear hcz45_0
              try clear hcz45_1
              try clear hcz45_2
              try clear hcz45_3
              try clear hcz45_4
              try clear hcz47_0
              try clear hcz47_1
              try clear hcz47_2
              try clear hcz47_3
              try clear hcz47_4
              try clear hcz48_0
              try clear hcz48_1
              try clear hcz48_2
              try clear hcz48_3
              try clear hcz48_4
              try clear hcz5_0
              try clear hcz5_1
              try clear hcz5_2
              try clear hcz5_3
              try clear hcz5_4
              try clear hfz22_0
              try clear hfz22_1
              try clear hfz22_2
              try clear hfz22_3
              try clear hfz22_4
              try clear hfz24_0
              try clear hfz24_1
              try clear hfz24_2
              try clear hfz24_3
              try clear hfz24_4
              try clear hfz26_0
              try clear hfz26_1
              try clear hfz26_2
              try clear hfz26_3
              try clear hfz26_4
              try clear hfz32_0
              try clear hfz32_1
              try clear hfz32_2
              try clear hfz32_3
              try clear hfz32_4
              try clear hfz38_0
              try clear hfz38_1
              try clear hfz38_2
              try clear hfz38_3
              try clear hfz38_4
              try clear hfz45_0
              try clear hfz45_1
              try clear hfz45_2
              try clear hfz45_3
              try clear hfz45_4
              try clear hfz47_0
              try clear hfz47_1
              try clear hfz47_2
              try clear hfz47_3
              try clear hfz47_4
              try clear hfz48_0
              try clear hfz48_1
              try clear hfz48_2
              try clear hfz48_3
              try clear hfz48_4
              try clear hfz5_0
              try clear hfz5_1
              try clear hfz5_2
              try clear hfz5_3
              try clear hfz5_4
              try clear p2
              obtain ⟨kq, x38_40, rfl, HA, HJ40, BK293, HB⟩ := hcut
              cases kq with
              | zero => exact absurd HA.out (by simp [wardenref07_jumps.j4])
              | succ kj40 =>
               have H := HA.out
               clear HA
               simp only [wardenref07_jumps.j4] at H
               by_cases c50 : x38_40 = true
               ·subst c50
                have H1 : (some 6) = some r := by rw [if_pos rfl] at H; exact H
                clear H
                have H := H1
                clear H1
                obtain rfl := Option.some.inj H
                go_wp2
                go_ret
                exact ⟨by first | rfl | (simp [errW_none, errW_some] <;> rfl) | (simp [*, errW_none, errW_some] <;> rfl), by repeat (first | (with_reducible first | exact HB.out | apply below_alloc | apply pw_below_drewN | apply below_drew1 | refine below_set ?_ GE293.out) | exact HB.out)⟩
               ·replace c50 := Bool.eq_false_iff.mpr c50
                subst c50
                have H1 : (if t294 = 8 then ((wardenref07_is.f a0_0 a0_1 a0_2 a0_3 a0_4 false true false true).bind fun t304 => (if t304 = true then (if a0_2 = 1 then (some 7) else (some 0)) else (some 0))) else (some 0)) = some r := by rw [if_neg (show ¬ (false = true) by decide)] at H; exact H
                clear H
                have H := H1
                clear H1
                by_cases c51 : t294 = 8
                ·rw [if_pos c51] at H
                 have c51b0 : (t294 == 8) = true := beq_iff_eq.mpr c51
                 have c51b1 : (t294 != 8) = false := bne_eq_false_iff_eq.mpr c51
                 clear c51
                 replace H := Option.bind_eq_some_iff.mp H
                 obtain ⟨t304, A520, H⟩ := H
                 try dsimp only at H
                 have A52 := am A520
                 clear A520
                 by_cases c53 : t304 = true
                 ·subst c53
                  have H1 : (if a0_2 = 1 then (some 7) else (some 0)) = some r := by rw [if_pos rfl] at H; exact H
                  clear H
                  have H := H1
                  clear H1
                  by_cases c54 : a0_2 = 1
                  ·rw [if_pos c54] at H
                   have c54b0 : (a0_2 == 1) = true := beq_iff_eq.mpr c54
                   have c54b1 : (a0_2 != 1) = false := bne_eq_false_iff_eq.mpr c54
                   clear c54
                   obtain rfl := Option.some.inj H
                   have hcz55_0 : wc.cell? ⟨gb293, 0, none⟩ = some (.int .u8 a0_0) := (blk_cell BK293.out 0).trans rfl
                   have hcz55_1 : wc.cell? ⟨gb293, 1, none⟩ = some (.int .u8 a0_1) := (blk_cell BK293.out 1).trans rfl
                   have hcz55_2 : wc.cell? ⟨gb293, 2, none⟩ = some (.int .u8 a0_2) := (blk_cell BK293.out 2).trans rfl
                   have hcz55_3 : wc.cell? ⟨gb293, 3, none⟩ = some (.int .i16 a0_3) := (blk_cell BK293.out 3).trans rfl
                   have hcz55_4 : wc.cell? ⟨gb293, 4, none⟩ = some (.int .i32 a0_4) := (blk_cell BK293.out 4).trans rfl
                   have hfz55_0 := blk_frozen BK293.out 0
                   have hfz55_1 := blk_frozen BK293.out 1
                   have hfz55_2 := blk_frozen BK293.out 2
                   have hfz55_3 := blk_frozen BK293.out 3
                   have hfz55_4 := blk_frozen BK293.out 4
                   go_wp2_with (first | (go_at_call 56; (with_reducible refine (wardenref07_is.calls a0_0 a0_1 a0_2 a0_3 a0_4 false true false true true _ A52.out).mono ?_); rintro e w56 ⟨rfl, hb⟩; have n0_ := am (blk_below (g := gb293) (o := .cells #[.int .u8 a0_0, .int .u8 a0_1, .int .u8 a0_2, .int .i16 a0_3, .int .i32 a0_4] 24 (0, 0)) (by first | exact BK293.out | exact blk_drewN BK293.out _) hb); have n1_ := am (below_step (by repeat (first | exact HB.out | apply pb | apply pa | apply pd | refine below_set ?_ GE293.out)) hb); clear BK293; clear HB; have BK293 := n0_; have HB := n1_; clear n0_ n1_; (try clear hb); (try clear hb2); (try clear hk); (try clear hi); have hcz57_0 : w56.cell? ⟨gb293, 0, none⟩ = some (.int .u8 a0_0) := (blk_cell BK293.out 0).trans rfl; have hcz57_1 : w56.cell? ⟨gb293, 1, none⟩ = some (.int .u8 a0_1) := (blk_cell BK293.out 1).trans rfl; have hcz57_2 : w56.cell? ⟨gb293, 2, none⟩ = some (.int .u8 a0_2) := (blk_cell BK293.out 2).trans rfl; have hcz57_3 : w56.cell? ⟨gb293, 3, none⟩ = some (.int .i16 a0_3) := (blk_cell BK293.out 3).trans rfl; have hcz57_4 : w56.cell? ⟨gb293, 4, none⟩ = some (.int .i32 a0_4) := (blk_cell BK293.out 4).trans rfl; have hfz57_0 := blk_frozen BK293.out 0; have hfz57_1 := blk_frozen BK293.out 1; have hfz57_2 := blk_frozen BK293.out 2; have hfz57_3 := blk_frozen BK293.out 3; have hfz57_4 := blk_frozen BK293.out 4))
                   go_ret
                   exact ⟨by first | rfl | (simp [errW_none, errW_some] <;> rfl) | (simp [*, errW_none, errW_some] <;> rfl), by repeat (first | (with_reducible first | exact HB.out | apply below_alloc | apply pw_below_drewN | apply below_drew1 | refine below_set ?_ GE293.out) | exact HB.out)⟩
                  ·rw [if_neg c54] at H
                   have c54b0 : (a0_2 == 1) = false := beq_eq_false_iff_ne.mpr c54
                   have c54b1 : (a0_2 != 1) = true := bne_iff_ne.mpr c54
                   obtain rfl := Option.some.inj H
                   have hcz58_0 : wc.cell? ⟨gb293, 0, none⟩ = some (.int .u8 a0_0) := (blk_cell BK293.out 0).trans rfl
                   have hcz58_1 : wc.cell? ⟨gb293, 1, none⟩ = some (.int .u8 a0_1) := (blk_cell BK293.out 1).trans rfl
                   have hcz58_2 : wc.cell? ⟨gb293, 2, none⟩ = some (.int .u8 a0_2) := (blk_cell BK293.out 2).trans rfl
                   have hcz58_3 : wc.cell? ⟨gb293, 3, none⟩ = some (.int .i16 a0_3) := (blk_cell BK293.out 3).trans rfl
                   have hcz58_4 : wc.cell? ⟨gb293, 4, none⟩ = some (.int .i32 a0_4) := (blk_cell BK293.out 4).trans rfl
                   have hfz58_0 := blk_frozen BK293.out 0
                   have hfz58_1 := blk_frozen BK293.out 1
                   have hfz58_2 := blk_frozen BK293.out 2
                   have hfz58_3 := blk_frozen BK293.out 3
                   have hfz58_4 := blk_frozen BK293.out 4
                   go_wp2_with (first | (go_at_call 56; (with_reducible refine (wardenref07_is.calls a0_0 a0_1 a0_2 a0_3 a0_4 false true false true true _ A52.out).mono ?_); rintro e w59 ⟨rfl, hb⟩; have n0_ := am (blk_below (g := gb293) (o := .cells #[.int .u8 a0_0, .int .u8 a0_1, .int .u8 a0_2, .int .i16 a0_3, .int .i32 a0_4] 24 (0, 0)) (by first | exact BK293.out | exact blk_drewN BK293.out _) hb); have n1_ := am (below_step (by repeat (first | exact HB.out | apply pb | apply pa | apply pd | refine below_set ?_ GE293.out)) hb); clear BK293; clear HB; have BK293 := n0_; have HB := n1_; clear n0_ n1_; (try clear hb); (try clear hb2); (try clear hk); (try clear hi); have hcz60_0 : w59.cell? ⟨gb293, 0, none⟩ = some (.int .u8 a0_0) := (blk_cell BK293.out 0).trans rfl; have hcz60_1 : w59.cell? ⟨gb293, 1, none⟩ = some (.int .u8 a0_1) := (blk_cell BK293.out 1).trans rfl; have hcz60_2 : w59.cell? ⟨gb293, 2, none⟩ = some (.int .u8 a0_2) := (blk_cell BK293.out 2).trans rfl; have hcz60_3 : w59.cell? ⟨gb293, 3, none⟩ = some (.int .i16 a0_3) := (blk_cell BK293.out 3).trans rfl; have hcz60_4 : w59.cell? ⟨gb293, 4, none⟩ = some (.int .i32 a0_4) := (blk_cell BK293.out 4).trans rfl; have hfz60_0 := blk_frozen BK293.out 0; have hfz60_1 := blk_frozen BK293.out 1; have hfz60_2 := blk_frozen BK293.out 2; have hfz60_3 := blk_frozen BK293.out 3; have hfz60_4 := blk_frozen BK293.out 4))
                   go_ret
                   exact ⟨by first | rfl | (simp [errW_none, errW_some] <;> rfl) | (simp [*, errW_none, errW_some] <;> rfl), by repeat (first | (with_reducible first | exact HB.out | apply below_alloc | apply pw_below_drewN | apply below_drew1 | refine below_set ?_ GE293.out) | exact HB.out)⟩
                 ·replace c53 := Bool.eq_false_iff.mpr c53
                  subst c53
                  have H1 : (some 0) = some r := by rw [if_neg (show ¬ (false = true) by decide)] at H; exact H
                  clear H
                  have H := H1
                  clear H1
                  obtain rfl := Option.some.inj H
                  have hcz61_0 : wc.cell? ⟨gb293, 0, none⟩ = some (.int .u8 a0_0) := (blk_cell BK293.out 0).trans rfl
                  have hcz61_1 : wc.cell? ⟨gb293, 1, none⟩ = some (.int .u8 a0_1) := (blk_cell BK293.out 1).trans rfl
                  have hcz61_2 : wc.cell? ⟨gb293, 2, none⟩ = some (.int .u8 a0_2) := (blk_cell BK293.out 2).trans rfl
                  have hcz61_3 : wc.cell? ⟨gb293, 3, none⟩ = some (.int .i16 a0_3) := (blk_cell BK293.out 3).trans rfl
                  have hcz61_4 : wc.cell? ⟨gb293, 4, none⟩ = some (.int .i32 a0_4) := (blk_cell BK293.out 4).trans rfl
                  have hfz61_0 := blk_frozen BK293.out 0
                  have hfz61_1 := blk_frozen BK293.out 1
                  have hfz61_2 := blk_frozen BK293.out 2
                  have hfz61_3 := blk_frozen BK293.out 3
                  have hfz61_4 := blk_frozen BK293.out 4
                  go_wp2_with (first | (go_at_call 56; (with_reducible refine (wardenref07_is.calls a0_0 a0_1 a0_2 a0_3 a0_4 false true false true false _ A52.out).mono ?_); rintro e w62 ⟨rfl, hb⟩; have n0_ := am (blk_below (g := gb293) (o := .cells #[.int .u8 a0_0, .int .u8 a0_1, .int .u8 a0_2, .int .i16 a0_3, .int .i32 a0_4] 24 (0, 0)) (by first | exact BK293.out | exact blk_drewN BK293.out _) hb); have n1_ := am (below_step (by repeat (first | exact HB.out | apply pb | apply pa | apply pd | refine below_set ?_ GE293.out)) hb); clear BK293; clear HB; have BK293 := n0_; have HB := n1_; clear n0_ n1_; (try clear hb); (try clear hb2); (try clear hk); (try clear hi)))
                  go_ret
                  exact ⟨by first | rfl | (simp [errW_none, errW_some] <;> rfl) | (simp [*, errW_none, errW_some] <;> rfl), by repeat (first | (with_reducible first | exact HB.out | apply below_alloc | apply pw_below_drewN | apply below_drew1 | refine below_set ?_ GE293.out) | exact HB.out)⟩
                ·rw [if_neg c51] at H
                 have c51b0 : (t294 == 8) = false := beq_eq_false_iff_ne.mpr c51
                 have c51b1 : (t294 != 8) = true := bne_iff_ne.mpr c51
                 obtain rfl := Option.some.inj H
                 go_wp2
                 go_ret
                 exact ⟨by first | rfl | (simp [errW_none, errW_some] <;> rfl) | (simp [*, errW_none, errW_some] <;> rfl), by repeat (first | (with_reducible first | exact HB.out | apply below_alloc | apply pw_below_drewN | apply below_drew1 | refine below_set ?_ GE293.out) | exact HB.out)⟩

end Go.Proofs.Ytibghcmkmbamjaa.PI
