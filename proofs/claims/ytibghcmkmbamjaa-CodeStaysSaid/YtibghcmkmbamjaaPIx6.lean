-- turned from the kit's print
import Derived.Test.YtibghcmkmbamjaaGPI
import Derived.Test.YtibghcmkmbamjaaPIx3
import Derived.Test.YtibghcmkmbamjaaPIx4
import Derived.Test.YtibghcmkmbamjaaPIx5
namespace Go.Proofs.Ytibghcmkmbamjaa.PI
open Go.RowKit Go.Proofs.YtibghcmkmbamjaaW.PrintWords Go.Proofs.YtibghcmkmbamjaaW.PrintLast Go.Proofs.YtibghcmkmbamjaaW.PrintMore
attribute [local go_sem] max2_int min2_int max_two min_two max_three min_three max_four min_four   -- for this text's walks alone
set_option linter.unusedVariables false
set_option linter.unusedSimpArgs false

/-! ### insn_jump: function 51 -/
mutual
def insn_jump.j0 : Nat → Int → Bool → Int → Int → Int → Int → Int → Option (Int)
 | 0, _, _, _, _, _, _, _ => none
 | k + 1, x3, x6, x125000, x125001, x125002, x125003, x125004 => if x6 = true then (some 5) else ((insn_class.f x125000 x125001 x125002 x125003 x125004).bind fun t132 => (if t132 = 5 then ((insn_bitX.f x125000 x125001 x125002 x125003 x125004).bind fun t133 => (insn_jump.j1 k x3 t133 x125000 x125001 x125002 x125003 x125004)) else (insn_jump.j1 k x3 true x125000 x125001 x125002 x125003 x125004)))
def insn_jump.j1 : Nat → Int → Bool → Int → Int → Int → Int → Int → Option (Int)
 | 0, _, _, _, _, _, _, _ => none
 | k + 1, x3, x16, x125000, x125001, x125002, x125003, x125004 => if x16 = true then (some 0) else (if x3 = 0 then ((insn_uses.f k x125000 x125001 x125002 x125003 x125004 (([4] : List Int))).bind fun t137 => (insn_jump.j2 k x3 t137 x125000 x125001 x125002 x125003 x125004)) else (insn_jump.j2 k x3 false x125000 x125001 x125002 x125003 x125004))
def insn_jump.j2 : Nat → Int → Bool → Int → Int → Int → Int → Int → Option (Int)
 | 0, _, _, _, _, _, _, _ => none
 | k + 1, x3, x24, x125000, x125001, x125002, x125003, x125004 => if x24 = true then (some 10) else (if x3 = 9 then ((insn_uses.f k x125000 x125001 x125002 x125003 x125004 ([] : List Int)).bind fun t138 => (insn_jump.j3 k x3 t138 x125000 x125001 x125002 x125003 x125004)) else (insn_jump.j3 k x3 false x125000 x125001 x125002 x125003 x125004))
def insn_jump.j3 : Nat → Int → Bool → Int → Int → Int → Int → Int → Option (Int)
 | 0, _, _, _, _, _, _, _ => none
 | k + 1, x3, x32, x125000, x125001, x125002, x125003, x125004 => if x32 = true then (some 8) else (if x3 = 8 then (if x125002 = 0 then ((insn_uses.f k x125000 x125001 x125002 x125003 x125004 (([8] : List Int))).bind fun t142 => (insn_jump.j4 k x3 t142 x125000 x125001 x125002 x125003 x125004)) else (insn_jump.j4 k x3 false x125000 x125001 x125002 x125003 x125004)) else (insn_jump.j4 k x3 false x125000 x125001 x125002 x125003 x125004))
def insn_jump.j4 : Nat → Int → Bool → Int → Int → Int → Int → Int → Option (Int)
 | 0, _, _, _, _, _, _, _ => none
 | k + 1, x3, x39, x125000, x125001, x125002, x125003, x125004 => if x39 = true then (some 6) else (if x3 = 8 then (if x125002 = 1 then ((insn_uses.f k x125000 x125001 x125002 x125003 x125004 (([2, 8] : List Int))).bind fun t146 => (if t146 = true then (some 7) else (some 0))) else (some 0)) else (some 0))
end
def insn_jump.f (k : Nat) (a0_0 : Int) (a0_1 : Int) (a0_2 : Int) (a0_3 : Int) (a0_4 : Int) : Option (Int) := (insn_Code.f a0_0 a0_1 a0_2 a0_3 a0_4).bind fun t125 => ((insn_asks.f t125).bind fun t126 => (if t126 = true then ((insn_second.f a0_0 a0_1 a0_2 a0_3 a0_4).bind fun t127 => ((insn_uses.f k a0_0 a0_1 a0_2 a0_3 a0_4 (([1, 4, t127] : List Int))).bind fun t131 => (insn_jump.j0 k t125 t131 a0_0 a0_1 a0_2 a0_3 a0_4))) else (insn_jump.j0 k t125 false a0_0 a0_1 a0_2 a0_3 a0_4)))
theorem insn_jump.mono_l : ∀ k, (∀ y0 y1 y2 y3 y4 y5 y6, LeO (insn_jump.j0 k y0 y1 y2 y3 y4 y5 y6) (insn_jump.j0 (k + 1) y0 y1 y2 y3 y4 y5 y6)) ∧ (∀ y0 y1 y2 y3 y4 y5 y6, LeO (insn_jump.j1 k y0 y1 y2 y3 y4 y5 y6) (insn_jump.j1 (k + 1) y0 y1 y2 y3 y4 y5 y6)) ∧ (∀ y0 y1 y2 y3 y4 y5 y6, LeO (insn_jump.j2 k y0 y1 y2 y3 y4 y5 y6) (insn_jump.j2 (k + 1) y0 y1 y2 y3 y4 y5 y6)) ∧ (∀ y0 y1 y2 y3 y4 y5 y6, LeO (insn_jump.j3 k y0 y1 y2 y3 y4 y5 y6) (insn_jump.j3 (k + 1) y0 y1 y2 y3 y4 y5 y6)) ∧ (∀ y0 y1 y2 y3 y4 y5 y6, LeO (insn_jump.j4 k y0 y1 y2 y3 y4 y5 y6) (insn_jump.j4 (k + 1) y0 y1 y2 y3 y4 y5 y6))
 | 0 => ⟨fun _ _ _ _ _ _ _ r h => by simp [insn_jump.j0] at h, fun _ _ _ _ _ _ _ r h => by simp [insn_jump.j1] at h, fun _ _ _ _ _ _ _ r h => by simp [insn_jump.j2] at h, fun _ _ _ _ _ _ _ r h => by simp [insn_jump.j3] at h, fun _ _ _ _ _ _ _ r h => by simp [insn_jump.j4] at h⟩
 | k + 1 => by
  obtain ⟨ih0, ih1, ih2, ih3, ih4⟩ := insn_jump.mono_l k
  refine ⟨?_, ?_, ?_, ?_, ?_⟩
  ·intro y0 y1 y2 y3 y4 y5 y6
   unfold insn_jump.j0
   repeat' first
   | (with_reducible exact ih0 _ _ _ _ _ _ _)
   | (with_reducible exact ih1 _ _ _ _ _ _ _)
   | (with_reducible exact ih2 _ _ _ _ _ _ _)
   | (with_reducible exact ih3 _ _ _ _ _ _ _)
   | (with_reducible exact ih4 _ _ _ _ _ _ _)
   | (with_reducible exact insn_uses.mono _ _ _ _ _ _ _)
   | (with_reducible exact LeO.refl _)
   | (with_reducible exact LeO.none _)
   | (with_reducible refine LeO.ite ?_ ?_)
   | (with_reducible refine LeO.bind ?_ (fun _ => ?_))
   | exact ih0 _ _ _ _ _ _ _
   | exact ih1 _ _ _ _ _ _ _
   | exact ih2 _ _ _ _ _ _ _
   | exact ih3 _ _ _ _ _ _ _
   | exact ih4 _ _ _ _ _ _ _
   | exact insn_uses.mono _ _ _ _ _ _ _
   | exact LeO.none _
   | refine LeO.ite ?_ ?_
   | refine LeO.bind ?_ (fun _ => ?_)
  ·intro y0 y1 y2 y3 y4 y5 y6
   unfold insn_jump.j1
   repeat' first
   | (with_reducible exact ih0 _ _ _ _ _ _ _)
   | (with_reducible exact ih1 _ _ _ _ _ _ _)
   | (with_reducible exact ih2 _ _ _ _ _ _ _)
   | (with_reducible exact ih3 _ _ _ _ _ _ _)
   | (with_reducible exact ih4 _ _ _ _ _ _ _)
   | (with_reducible exact insn_uses.mono _ _ _ _ _ _ _)
   | (with_reducible exact LeO.refl _)
   | (with_reducible exact LeO.none _)
   | (with_reducible refine LeO.ite ?_ ?_)
   | (with_reducible refine LeO.bind ?_ (fun _ => ?_))
   | exact ih0 _ _ _ _ _ _ _
   | exact ih1 _ _ _ _ _ _ _
   | exact ih2 _ _ _ _ _ _ _
   | exact ih3 _ _ _ _ _ _ _
   | exact ih4 _ _ _ _ _ _ _
   | exact insn_uses.mono _ _ _ _ _ _ _
   | exact LeO.none _
   | refine LeO.ite ?_ ?_
   | refine LeO.bind ?_ (fun _ => ?_)
  ·intro y0 y1 y2 y3 y4 y5 y6
   unfold insn_jump.j2
   repeat' first
   | (with_reducible exact ih0 _ _ _ _ _ _ _)
   | (with_reducible exact ih1 _ _ _ _ _ _ _)
   | (with_reducible exact ih2 _ _ _ _ _ _ _)
   | (with_reducible exact ih3 _ _ _ _ _ _ _)
   | (with_reducible exact ih4 _ _ _ _ _ _ _)
   | (with_reducible exact insn_uses.mono _ _ _ _ _ _ _)
   | (with_reducible exact LeO.refl _)
   | (with_reducible exact LeO.none _)
   | (with_reducible refine LeO.ite ?_ ?_)
   | (with_reducible refine LeO.bind ?_ (fun _ => ?_))
   | exact ih0 _ _ _ _ _ _ _
   | exact ih1 _ _ _ _ _ _ _
   | exact ih2 _ _ _ _ _ _ _
   | exact ih3 _ _ _ _ _ _ _
   | exact ih4 _ _ _ _ _ _ _
   | exact insn_uses.mono _ _ _ _ _ _ _
   | exact LeO.none _
   | refine LeO.ite ?_ ?_
   | refine LeO.bind ?_ (fun _ => ?_)
  ·intro y0 y1 y2 y3 y4 y5 y6
   unfold insn_jump.j3
   repeat' first
   | (with_reducible exact ih0 _ _ _ _ _ _ _)
   | (with_reducible exact ih1 _ _ _ _ _ _ _)
   | (with_reducible exact ih2 _ _ _ _ _ _ _)
   | (with_reducible exact ih3 _ _ _ _ _ _ _)
   | (with_reducible exact ih4 _ _ _ _ _ _ _)
   | (with_reducible exact insn_uses.mono _ _ _ _ _ _ _)
   | (with_reducible exact LeO.refl _)
   | (with_reducible exact LeO.none _)
   | (with_reducible refine LeO.ite ?_ ?_)
   | (with_reducible refine LeO.bind ?_ (fun _ => ?_))
   | exact ih0 _ _ _ _ _ _ _
   | exact ih1 _ _ _ _ _ _ _
   | exact ih2 _ _ _ _ _ _ _
   | exact ih3 _ _ _ _ _ _ _
   | exact ih4 _ _ _ _ _ _ _
   | exact insn_uses.mono _ _ _ _ _ _ _
   | exact LeO.none _
   | refine LeO.ite ?_ ?_
   | refine LeO.bind ?_ (fun _ => ?_)
  ·intro y0 y1 y2 y3 y4 y5 y6
   unfold insn_jump.j4
   repeat' first
   | (with_reducible exact ih0 _ _ _ _ _ _ _)
   | (with_reducible exact ih1 _ _ _ _ _ _ _)
   | (with_reducible exact ih2 _ _ _ _ _ _ _)
   | (with_reducible exact ih3 _ _ _ _ _ _ _)
   | (with_reducible exact ih4 _ _ _ _ _ _ _)
   | (with_reducible exact insn_uses.mono _ _ _ _ _ _ _)
   | (with_reducible exact LeO.refl _)
   | (with_reducible exact LeO.none _)
   | (with_reducible refine LeO.ite ?_ ?_)
   | (with_reducible refine LeO.bind ?_ (fun _ => ?_))
   | exact ih0 _ _ _ _ _ _ _
   | exact ih1 _ _ _ _ _ _ _
   | exact ih2 _ _ _ _ _ _ _
   | exact ih3 _ _ _ _ _ _ _
   | exact ih4 _ _ _ _ _ _ _
   | exact insn_uses.mono _ _ _ _ _ _ _
   | exact LeO.none _
   | refine LeO.ite ?_ ?_
   | refine LeO.bind ?_ (fun _ => ?_)
theorem insn_jump.mono : ∀ a0 a1 a2 a3 a4 k, LeO (insn_jump.f k a0 a1 a2 a3 a4) (insn_jump.f (k + 1) a0 a1 a2 a3 a4) := by
 intro a0 a1 a2 a3 a4 k
 obtain ⟨ih0, ih1, ih2, ih3, ih4⟩ := insn_jump.mono_l k
 unfold insn_jump.f
 repeat' first
   | (with_reducible exact ih0 _ _ _ _ _ _ _)
   | (with_reducible exact ih1 _ _ _ _ _ _ _)
   | (with_reducible exact ih2 _ _ _ _ _ _ _)
   | (with_reducible exact ih3 _ _ _ _ _ _ _)
   | (with_reducible exact ih4 _ _ _ _ _ _ _)
   | (with_reducible exact insn_uses.mono _ _ _ _ _ _ _)
   | (with_reducible exact LeO.refl _)
   | (with_reducible exact LeO.none _)
   | (with_reducible refine LeO.ite ?_ ?_)
   | (with_reducible refine LeO.bind ?_ (fun _ => ?_))
   | exact ih0 _ _ _ _ _ _ _
   | exact ih1 _ _ _ _ _ _ _
   | exact ih2 _ _ _ _ _ _ _
   | exact ih3 _ _ _ _ _ _ _
   | exact ih4 _ _ _ _ _ _ _
   | exact insn_uses.mono _ _ _ _ _ _ _
   | exact LeO.none _
   | refine LeO.ite ?_ ?_
   | refine LeO.bind ?_ (fun _ => ?_)
def insn_jump.T2 : Bool × List (List Nat × List Nat) := (true, [([], []), ([0], [0]), ([1, 1], [1]), ([2], [2]), ([2], [2]), ([4, 2, 2], [2, 4]), ([5, 2], [2, 5]), ([3, 6, 5, 2], [2, 3, 6]), ([2, 7], [2, 7]), ([8, 7], [8])])
def insn_jump.B2 : List Nat := [0, 1, 3, 7, 7, 23, 55, 127, 255, 511]
theorem insn_jump.tab2 : rtab .any (opsOf Try.f51 2) = insn_jump.T2 := by kernel_rfl
theorem insn_jump.bits2 : waitsOk insn_jump.T2.2 insn_jump.B2 = true := by kernel_rfl
set_option maxHeartbeats 8000000 in
set_option maxRecDepth 100000 in
theorem insn_jump.calls (k : Nat) (a0_0 : Int) (a0_1 : Int) (a0_2 : Int) (a0_3 : Int) (a0_4 : Int) (r : Int) (w : World) (h : insn_jump.f k a0_0 a0_1 a0_2 a0_3 a0_4 = some r) :
  Calls Try.prog 51 #[.agg #[.int .u8 a0_0, .int .u8 a0_1, .int .u8 a0_2, .int .i16 a0_3, .int .i32 a0_4]] w fun e w' => e = .returned (.int .u8 r) ∧ Below w.heap.size w w' := by
 have hu24 := Try.underlying24
 have HB := am (Below.refl w.heap.size w)
 have H : ((insn_Code.f a0_0 a0_1 a0_2 a0_3 a0_4).bind fun t125 => ((insn_asks.f t125).bind fun t126 => (if t126 = true then ((insn_second.f a0_0 a0_1 a0_2 a0_3 a0_4).bind fun t127 => ((insn_uses.f k a0_0 a0_1 a0_2 a0_3 a0_4 (([1, 4, t127] : List Int))).bind fun t131 => (insn_jump.j0 k t125 t131 a0_0 a0_1 a0_2 a0_3 a0_4))) else (insn_jump.j0 k t125 false a0_0 a0_1 a0_2 a0_3 a0_4)))) = some r := h
 clear h
 replace H := Option.bind_eq_some_iff.mp H
 obtain ⟨t125, A20, H⟩ := H
 try dsimp only at H
 have A2 := am A20
 clear A20
 have HC3 := am H
 clear H
 go_enter Try.func51, Try.ntmps51
 go_upto_region 2 with (first | ((with_reducible refine gate_dst (N := 1) rfl ?_); (try (refine gate_guard (by rfl) ?_; dsimp only)); refine box_event ?hg (N := 1) ?hd (cs := #[.int .u8 a0_0, .int .u8 a0_1, .int .u8 a0_2, .int .i16 a0_3, .int .i32 a0_4]) (t := 24) ?hr ?_; (case hd => rfl); (case hg => rfl); (case hr => first | (go_simp; done) | (go_simp; rfl)); intro gb124 hg w4 hbox hb; have n0_ := am (below_step (by repeat (first | exact HB.out | apply pb | apply pa | apply pd)) hb); have n1_ := am (hbox); have n2_ := am ((by rw [hg]; exact (below_size (by repeat (first | exact HB.out | apply pb | apply pa | apply pd))) : w.heap.size ≤ gb124)); have n3_ := am ((by rw [hg]; exact (below_size (by repeat (first | exact HB.out | apply pb | apply pa | apply pd))) : w.heap.size ≤ gb124)); clear HB; have HB := n0_; have BK124 := n1_; have GW124 := n2_; have GE124 := n3_; clear n0_ n1_ n2_ n3_; clear hb hbox hg; have hcz5_0 : w4.cell? ⟨gb124, 0, none⟩ = some (.int .u8 a0_0) := (blk_cell BK124.out 0).trans rfl; have hcz5_1 : w4.cell? ⟨gb124, 1, none⟩ = some (.int .u8 a0_1) := (blk_cell BK124.out 1).trans rfl; have hcz5_2 : w4.cell? ⟨gb124, 2, none⟩ = some (.int .u8 a0_2) := (blk_cell BK124.out 2).trans rfl; have hcz5_3 : w4.cell? ⟨gb124, 3, none⟩ = some (.int .i16 a0_3) := (blk_cell BK124.out 3).trans rfl; have hcz5_4 : w4.cell? ⟨gb124, 4, none⟩ = some (.int .i32 a0_4) := (blk_cell BK124.out 4).trans rfl; have hfz5_0 := blk_frozen BK124.out 0; have hfz5_1 := blk_frozen BK124.out 1; have hfz5_2 := blk_frozen BK124.out 2; have hfz5_3 := blk_frozen BK124.out 3; have hfz5_4 := blk_frozen BK124.out 4) | ((with_reducible refine gate_callee (f := 21) rfl ?_); refine goesL_ (some 5) rfl rfl Try.func21 (by kernel_rfl) rfl #[.agg #[.int .u8 a0_0, .int .u8 a0_1, .int .u8 a0_2, .int .i16 a0_3, .int .i32 a0_4]] rfl (by (try simp only [List.map_toArray, List.map_cons, List.map_nil]); first | done | rfl) ?_; (with_reducible refine (insn_Code.calls a0_0 a0_1 a0_2 a0_3 a0_4 t125 _ A2.out).mono ?_); rintro e w6 ⟨rfl, hb⟩; refine ⟨_, rfl, ?_⟩; have n0_ := am (blk_below BK124.out hb); have n1_ := am (below_step (by repeat (first | exact HB.out | apply pb | apply pa | apply pd | refine below_set ?_ GE124.out)) hb); clear BK124; clear HB; have BK124 := n0_; have HB := n1_; clear n0_ n1_; (try clear hb); (try clear hb2); (try clear hk); (try clear hi)))
 (try simp only [Act.put, List.setIfInBounds_toArray, List.set_cons_zero, List.set_cons_succ])
 go_cut [6] (fun v6 wc => ∃ (kq : Nat) (x6_2 : Bool), v6 = .bool x6_2 ∧ Aside0 (insn_jump.j0 kq t125 x6_2 a0_0 a0_1 a0_2 a0_3 a0_4 = some r) ∧ Aside0 (kq ≤ k) ∧ Aside0 (wc.heap[gb124]? = some (.cells #[.int .u8 a0_0, .int .u8 a0_1, .int .u8 a0_2, .int .i16 a0_3, .int .i32 a0_4] 24 (0, 0))) ∧ Aside0 (Below w.heap.size w wc))
 case first =>
  have H := HC3.out
  clear HC3
  replace H := Option.bind_eq_some_iff.mp H
  obtain ⟨t126, A70, H⟩ := H
  try dsimp only at H
  have A7 := am A70
  clear A70
  by_cases c8 : t126 = true
  ·subst c8
   have H1 : ((insn_second.f a0_0 a0_1 a0_2 a0_3 a0_4).bind fun t127 => ((insn_uses.f k a0_0 a0_1 a0_2 a0_3 a0_4 (([1, 4, t127] : List Int))).bind fun t131 => (insn_jump.j0 k t125 t131 a0_0 a0_1 a0_2 a0_3 a0_4))) = some r := by rw [if_pos rfl] at H; exact H
   clear H
   have H := H1
   clear H1
   replace H := Option.bind_eq_some_iff.mp H
   obtain ⟨t127, A90, H⟩ := H
   try dsimp only at H
   have A9 := am A90
   clear A90
   obtain ⟨y128, hy128⟩ : ∃ y_ : List Int, y_ = (([1, 4, t127] : List Int)) := ⟨_, rfl⟩
   replace H : ((insn_uses.f k a0_0 a0_1 a0_2 a0_3 a0_4 y128).bind fun t131 => (insn_jump.j0 k t125 t131 a0_0 a0_1 a0_2 a0_3 a0_4)) = some r := by first | (rw [hy128]; with_reducible exact H) | (have H2_ := (Option.bind_some _ _).symm.trans H; rw [hy128]; with_reducible exact H2_) | (have H2_ := (Option.bind_some _ _).symm.trans H; with_reducible exact H2_) | with_reducible exact H | (rw [hy128]; exact H) | exact H
   have Ny128 := am hy128
   clear hy128
   replace H := Option.bind_eq_some_iff.mp H
   obtain ⟨t131, A100, H⟩ := H
   try dsimp only at H
   have A10 := am A100
   clear A100
   have H' := am H
   clear H
   try go_wp2
   have n0_ := am (blk_drew BK124.out)
   have n1_ := am (below_drew1 HB.out)
   clear BK124
   clear HB
   have BK124 := n0_
   have HB := n1_
   clear n0_ n1_
   refine start_ (n := 10) (S := fun w' => w'.cell? ⟨gb124, 0, none⟩ = some (.int .u8 a0_0) ∧ w'.cell? ⟨gb124, 1, none⟩ = some (.int .u8 a0_1) ∧ w'.cell? ⟨gb124, 2, none⟩ = some (.int .u8 a0_2) ∧ w'.cell? ⟨gb124, 3, none⟩ = some (.int .i16 a0_3) ∧ w'.cell? ⟨gb124, 4, none⟩ = some (.int .i32 a0_4)) (ds := []) (ar 10 0) (by kernel_rfl) rfl rfl ⟨(blk_cell BK124.out 0).trans rfl, (blk_cell BK124.out 1).trans rfl, (blk_cell BK124.out 2).trans rfl, (blk_cell BK124.out 3).trans rfl, (blk_cell BK124.out 4).trans rfl⟩ (fun hHeld => ?_); refine with_tabW insn_jump.tab2 insn_jump.bits2 (fun HT_ HW_ => ?_)
   generalize w6.drew = w11 at BK124 HB hHeld ⊢
   refine pure_ (i := 0) (N := some 7) (v := ?_) (a' := ?_) (ar 10 1) rfl rfl (any_of HT_.out (by kernel_rfl)) (fun _ _ _ h => h) (Or.inl ⟨by rfl, ?_⟩) ?_ ?_
   rotate_left
   ·intro w'
    go_simp
    with_reducible rfl
   rotate_left
   ·simp only [Act.put, q1, q2, q3, i64_w, i32_w]
    rfl
   refine one_ (i := 1) (N := some 8) (ar 10 3) rfl rfl (one_of HT_.out (by kernel_rfl)) (by decide) (fun K hK => ?_)
   refine goes_ Try.func93 (by kernel_rfl) rfl #[.int .u8 t125] (by rfl) rfl rfl (by (try simp only [List.map_toArray, List.map_cons, List.map_nil]); first | done | rfl) ?_
   with_reducible refine (insn_asks.calls t125 true _ A7.out).mono ?_
   rintro e w' ⟨rfl, ⟨nd, rfl⟩⟩
   refine ⟨_, rfl, ?_⟩
   refine hK.out _ _ ⟨(blk_cell BK124.out 0).trans rfl, (blk_cell BK124.out 1).trans rfl, (blk_cell BK124.out 2).trans rfl, (blk_cell BK124.out 3).trans rfl, (blk_cell BK124.out 4).trans rfl⟩ (fun hHeld => ?_)
   clear hK K
   refine norm_ (a' := ?_) ?_ ?_
   rotate_left
   ·show Act.put _ (some 8) _ = _
    simp only [Act.put, q1, q2, q3, i64_w, i32_w]
    rfl
   refine pure_ (i := 2) (N := some 9) (v := ?_) (a' := ?_) (ar 10 7) rfl rfl (any_of HT_.out (by kernel_rfl)) (fun _ _ _ h => h) (Or.inl ⟨by rfl, ?_⟩) ?_ ?_
   rotate_left
   ·intro w'
    go_simp
    with_reducible rfl
   rotate_left
   ·simp only [Act.put, q1, q2, q3, i64_w, i32_w]
    rfl
   refine take_ (i := 3) (N := some 10) (v := ?_) (a' := ?_) (ar 10 15) rfl rfl (take_ofW HT_.out HW_.out (by kernel_rfl)) (fun _ _ _ h => h) (Or.inl ⟨by rfl, ?_⟩) hHeld ?_ ?_
   rotate_left
   ·rintro w' ⟨s0, s1, s2, s3, s4⟩
    go_simp
    with_reducible rfl
   rotate_left
   ·simp only [Act.put, q1, q2, q3, i64_w, i32_w]
    rfl
   refine take_ (i := 4) (N := some 11) (v := ?_) (a' := ?_) (ar 10 31) rfl rfl (take_ofW HT_.out HW_.out (by kernel_rfl)) (fun _ _ _ h => h) (Or.inl ⟨by rfl, ?_⟩) hHeld ?_ ?_
   rotate_left
   ·rintro w' ⟨s0, s1, s2, s3, s4⟩
    go_simp
    with_reducible rfl
   rotate_left
   ·simp only [Act.put, q1, q2, q3, i64_w, i32_w]
    rfl
   refine one_ (i := 5) (N := some 12) (ar 10 63) rfl rfl (one_of HT_.out (by kernel_rfl)) (by decide) (fun K hK => ?_)
   refine goes_ Try.func94 (by kernel_rfl) rfl #[.agg #[.int .u8 a0_0, .int .u8 a0_1, .int .u8 a0_2, .int .i16 a0_3, .int .i32 a0_4]] (by rfl) rfl rfl (by (try simp only [List.map_toArray, List.map_cons, List.map_nil]); first | done | rfl) ?_
   with_reducible refine (insn_second.calls a0_0 a0_1 a0_2 a0_3 a0_4 t127 _ A9.out).mono ?_
   rintro e w12 ⟨rfl, hb⟩
   refine ⟨_, rfl, ?_⟩
   have n0_ := am (blk_below (by (with_reducible repeat (first | refine blk_drewN ?_ _ | refine blk_drew ?_ | refine blk_alloc ?_ _)); exact BK124.out) hb)
   have n1_ := am (below_step (by repeat (first | exact HB.out | apply pb | apply pa | apply pd | refine below_set ?_ GE124.out)) hb)
   clear BK124
   clear HB
   have BK124 := n0_
   have HB := n1_
   clear n0_ n1_
   (try clear hb)
   (try clear hb2)
   (try clear hk)
   (try clear hi)
   refine hK.out _ _ ⟨(blk_cell BK124.out 0).trans rfl, (blk_cell BK124.out 1).trans rfl, (blk_cell BK124.out 2).trans rfl, (blk_cell BK124.out 3).trans rfl, (blk_cell BK124.out 4).trans rfl⟩ (fun hHeld => ?_)
   clear hK K
   refine norm_ (a' := ?_) ?_ ?_
   rotate_left
   ·show Act.put _ (some 12) _ = _
    simp only [Act.put, q1, q2, q3, i64_w, i32_w]
    rfl
   refine one_ (i := 6) (N := some 13) (ar 10 127) rfl rfl (one_of HT_.out (by kernel_rfl)) (by decide) (fun K hK => ?_)
   refine Kd.R_lit_step (Kd.int .i64) _ 3 ?hg (N := 13) ?hd (xs := ([1, 4, t127] : List Int)) (inner := [.int .i64 1, .int .i64 4, .int .i64 t127]) (ok := fun _ => True) (okp := fun _ => True) ?hr ?hp (fun _ hk => hk) trivial (Below.refl _ _) (Nat.le_refl _) (by simp) ?_; (case hd => rfl); (case hg => rfl); (case hr => first | (go_simp; done) | (go_simp; rfl)); (case hp => exact (Reps.one (show Kd.M (Kd.int .i64) _ _ _ 1 [.int .i64 1] from rfl) (Reps.one (show Kd.M (Kd.int .i64) _ _ _ 4 [.int .i64 4] from rfl) (Reps.one (show Kd.M (Kd.int .i64) _ _ _ t127 [.int .i64 t127] from rfl) (Reps.none _ _)))))
   intro v129 w13 ho14 hb hg_ hnew_
   clear hg_ hnew_
   (first | rw [← Ny128.out] at ho14 | (simp only [Int.reduceToNat] at ho14; rw [← Ny128.out] at ho14))
   have n0_ := am (Kd.R_lower ho14 (below_size (by repeat (first | exact HB.out | apply pb | apply pa | apply pd | refine below_set ?_ GE124.out))))
   have n1_ := am (blk_below BK124.out hb)
   have n2_ := am (below_step (by repeat (first | exact HB.out | apply pb | apply pa | apply pd | refine below_set ?_ GE124.out)) hb)
   clear BK124
   clear HB
   have HO130 := n0_
   have BK124 := n1_
   have HB := n2_
   clear n0_ n1_ n2_
   clear hb ho14
   obtain ⟨Ao15, co15, eo15⟩ := Kd.R_slice HO130.out
   (first | subst eo15 | (injection eo15 with f1_ f2_ f3_; have f4_ := f1_.symm; have f5_ := f3_.symm; clear f1_ f2_ f3_; subst f4_; subst f5_))
   refine hK.out _ _ ⟨(blk_cell BK124.out 0).trans rfl, (blk_cell BK124.out 1).trans rfl, (blk_cell BK124.out 2).trans rfl, (blk_cell BK124.out 3).trans rfl, (blk_cell BK124.out 4).trans rfl⟩ (fun hHeld => ?_)
   clear hK K
   refine norm_ (a' := ?_) ?_ ?_
   rotate_left
   ·show Act.put _ (some 13) _ = _
    simp only [Act.put, q1, q2, q3, i64_w, i32_w]
    rfl
   refine one_ (i := 7) (N := some 14) (ar 10 255) rfl rfl (one_of HT_.out (by kernel_rfl)) (by decide) (fun K hK => ?_)
   refine goes_ Try.func53 (by kernel_rfl) rfl #[.agg #[.int .u8 a0_0, .int .u8 a0_1, .int .u8 a0_2, .int .i16 a0_3, .int .i32 a0_4], .slice Ao15 y128.length co15] (by rfl) rfl rfl (by (try simp only [List.map_toArray, List.map_cons, List.map_nil]); first | done | rfl) ?_
   with_reducible refine (insn_uses.calls k a0_0 a0_1 a0_2 a0_3 a0_4 _ _ y128 t131 _ ?side1 ?side2 A10.out).mono ?_
   (case side1 => repeat (first | exact (Kd.R_reads' HO130.out).2.2 | (with_reducible refine Kd.C_alloc ?_ _) | (with_reducible refine Kd.C_drewN ?_ _) | (with_reducible refine Kd.C_drew ?_)))
   (case side2 => exact (Kd.R_reads' HO130.out).2.1)
   rintro e w16 ⟨rfl, hb⟩
   refine ⟨_, rfl, ?_⟩
   have n0_ := am (Kd.R_below (by (with_reducible repeat (first | apply Kd.R_alloc | apply Kd.R_drewN | apply Kd.R_drew)); exact HO130.out) hb)
   have n1_ := am (blk_below BK124.out hb)
   have n2_ := am (below_step (by repeat (first | exact HB.out | apply pb | apply pa | apply pd | refine below_set ?_ GE124.out)) hb)
   clear HO130
   clear BK124
   clear HB
   have HO130 := n0_
   have BK124 := n1_
   have HB := n2_
   clear n0_ n1_ n2_
   (try clear hb)
   (try clear hb2)
   (try clear hk)
   (try clear hi)
   refine hK.out _ _ ⟨(blk_cell BK124.out 0).trans rfl, (blk_cell BK124.out 1).trans rfl, (blk_cell BK124.out 2).trans rfl, (blk_cell BK124.out 3).trans rfl, (blk_cell BK124.out 4).trans rfl⟩ (fun hHeld => ?_)
   clear hK K
   refine norm_ (a' := ?_) ?_ ?_
   rotate_left
   ·show Act.put _ (some 14) _ = _
    simp only [Act.put, q1, q2, q3, i64_w, i32_w]
    rfl
   refine pure_ (i := 8) (N := some 15) (v := ?_) (a' := ?_) (ar 10 511) rfl rfl (any_of HT_.out (by kernel_rfl)) (fun _ _ _ h => h) (Or.inl ⟨by rfl, ?_⟩) ?_ ?_
   rotate_left
   ·intro w'
    go_simp
    with_reducible rfl
   rotate_left
   ·simp only [Act.put, q1, q2, q3, i64_w, i32_w]
    rfl
   refine pure_ (i := 9) (N := some 6) (v := ?_) (a' := ?_) (ar 10 1023) rfl rfl (any_of HT_.out (by kernel_rfl)) (fun _ _ _ h => h) (Or.inl ⟨by rfl, ?_⟩) ?_ ?_
   rotate_left
   ·intro w'
    go_simp
    with_reducible rfl
   rotate_left
   ·simp only [Act.put, q1, q2, q3, i64_w, i32_w]
    rfl
   refine done_ (done_of HT_.out (by kernel_rfl)) ?_
   try go_wp2
   go_meet
   case rel => exact ⟨_, (t131), (by first | rfl | (simp; done) | (simp [*]; done)), H', ⟨by first | omega | exact Nat.le_refl _⟩, ⟨by (with_reducible repeat (first | refine blk_drewN ?_ _ | refine blk_drew ?_ | refine blk_alloc ?_ _)); exact BK124.out⟩, ⟨by repeat (first | (with_reducible first | exact HB.out | apply below_alloc | apply pw_below_drewN | apply below_drew1 | refine below_set ?_ GE124.out) | exact HB.out)⟩⟩
  ·replace c8 := Bool.eq_false_iff.mpr c8
   subst c8
   have H1 : (insn_jump.j0 k t125 false a0_0 a0_1 a0_2 a0_3 a0_4) = some r := by rw [if_neg (show ¬ (false = true) by decide)] at H; exact H
   clear H
   have H := H1
   clear H1
   have H' := am H
   clear H
   try go_wp2
   have n0_ := am (blk_drew BK124.out)
   have n1_ := am (below_drew1 HB.out)
   clear BK124
   clear HB
   have BK124 := n0_
   have HB := n1_
   clear n0_ n1_
   refine start_ (n := 10) (S := fun w' => True) (ds := []) (ar 10 0) (by kernel_rfl) rfl rfl trivial (fun hHeld => ?_); refine with_tabW insn_jump.tab2 insn_jump.bits2 (fun HT_ HW_ => ?_)
   generalize w6.drew = w17 at BK124 HB hHeld ⊢
   refine pure_ (i := 0) (N := some 7) (v := ?_) (a' := ?_) (ar 10 1) rfl rfl (any_of HT_.out (by kernel_rfl)) (fun _ _ _ h => h) (Or.inl ⟨by rfl, ?_⟩) ?_ ?_
   rotate_left
   ·intro w'
    go_simp
    with_reducible rfl
   rotate_left
   ·simp only [Act.put, q1, q2, q3, i64_w, i32_w]
    rfl
   refine one_ (i := 1) (N := some 8) (ar 10 3) rfl rfl (one_of HT_.out (by kernel_rfl)) (by decide) (fun K hK => ?_)
   refine goes_ Try.func93 (by kernel_rfl) rfl #[.int .u8 t125] (by rfl) rfl rfl (by (try simp only [List.map_toArray, List.map_cons, List.map_nil]); first | done | rfl) ?_
   with_reducible refine (insn_asks.calls t125 false _ A7.out).mono ?_
   rintro e w' ⟨rfl, ⟨nd, rfl⟩⟩
   refine ⟨_, rfl, ?_⟩
   refine hK.out _ _ trivial (fun hHeld => ?_)
   clear hK K
   refine norm_ (a' := ?_) ?_ ?_
   rotate_left
   ·show Act.put _ (some 8) _ = _
    simp only [Act.put, q1, q2, q3, i64_w, i32_w]
    rfl
   refine pure_ (i := 2) (N := some 9) (v := ?_) (a' := ?_) (ar 10 7) rfl rfl (any_of HT_.out (by kernel_rfl)) (fun _ _ _ h => h) (Or.inl ⟨by rfl, ?_⟩) ?_ ?_
   rotate_left
   ·intro w'
    go_simp
    with_reducible rfl
   rotate_left
   ·simp only [Act.put, q1, q2, q3, i64_w, i32_w]
    rfl
   refine pure_ (i := 3) (N := some 10) (v := undef) (a' := ?_) (ar 10 15) rfl rfl (any_of HT_.out (by kernel_rfl)) (fun _ _ _ h => h) (Or.inr ⟨by rfl, rfl⟩) ?_ ?_
   rotate_left
   ·simp only [Act.put, q1, q2, q3, i64_w, i32_w]
    rfl
   refine pure_ (i := 4) (N := some 11) (v := undef) (a' := ?_) (ar 10 31) rfl rfl (any_of HT_.out (by kernel_rfl)) (fun _ _ _ h => h) (Or.inr ⟨by rfl, rfl⟩) ?_ ?_
   rotate_left
   ·simp only [Act.put, q1, q2, q3, i64_w, i32_w]
    rfl
   refine pure_ (i := 5) (N := some 12) (v := undef) (a' := ?_) (ar 10 63) rfl rfl (any_of HT_.out (by kernel_rfl)) (fun _ _ _ h => h) (Or.inr ⟨by rfl, rfl⟩) ?_ ?_
   rotate_left
   ·simp only [Act.put, q1, q2, q3, i64_w, i32_w]
    rfl
   refine pure_ (i := 6) (N := some 13) (v := undef) (a' := ?_) (ar 10 127) rfl rfl (any_of HT_.out (by kernel_rfl)) (fun _ _ _ h => h) (Or.inr ⟨by rfl, rfl⟩) ?_ ?_
   rotate_left
   ·simp only [Act.put, q1, q2, q3, i64_w, i32_w]
    rfl
   refine pure_ (i := 7) (N := some 14) (v := undef) (a' := ?_) (ar 10 255) rfl rfl (any_of HT_.out (by kernel_rfl)) (fun _ _ _ h => h) (Or.inr ⟨by rfl, rfl⟩) ?_ ?_
   rotate_left
   ·simp only [Act.put, q1, q2, q3, i64_w, i32_w]
    rfl
   refine pure_ (i := 8) (N := some 15) (v := ?_) (a' := ?_) (ar 10 511) rfl rfl (any_of HT_.out (by kernel_rfl)) (fun _ _ _ h => h) (Or.inl ⟨by rfl, ?_⟩) ?_ ?_
   rotate_left
   ·intro w'
    go_simp
    with_reducible rfl
   rotate_left
   ·simp only [Act.put, q1, q2, q3, i64_w, i32_w]
    rfl
   refine pure_ (i := 9) (N := some 6) (v := ?_) (a' := ?_) (ar 10 1023) rfl rfl (any_of HT_.out (by kernel_rfl)) (fun _ _ _ h => h) (Or.inl ⟨by rfl, ?_⟩) ?_ ?_
   rotate_left
   ·intro w'
    go_simp
    with_reducible rfl
   rotate_left
   ·simp only [Act.put, q1, q2, q3, i64_w, i32_w]
    rfl
   refine done_ (done_of HT_.out (by kernel_rfl)) ?_
   try go_wp2
   go_meet
   case rel => exact ⟨_, (false), (by first | rfl | (simp; done) | (simp [*]; done)), H', ⟨by first | omega | exact Nat.le_refl _⟩, ⟨by (with_reducible repeat (first | refine blk_drewN ?_ _ | refine blk_drew ?_ | refine blk_alloc ?_ _)); exact BK124.out⟩, ⟨by repeat (first | (with_reducible first | exact HB.out | apply below_alloc | apply pw_below_drewN | apply below_drew1 | refine below_set ?_ GE124.out) | exact HB.out)⟩⟩
 case rest =>
  clear HC3
  try clear c2
  try clear p2
  try clear c5
  try clear c8
  try clear c9
  try clear hcz5_0
  try clear hcz5_1
  try clear hcz5_2
  try clear hcz5_3
  try clear hcz5_4
  try clear hfz5_0
  try clear hfz5_1
  try clear hfz5_2
  try clear hfz5_3
  try clear hfz5_4
  obtain ⟨kq, x6_2, rfl, HA, HJ2, BK124, HB⟩ := hcut
  cases kq with
  | zero => exact absurd HA.out (by simp [insn_jump.j0])
  | succ kj2 =>
   have H := HA.out
   clear HA
   simp only [insn_jump.j0] at H
   by_cases c18 : x6_2 = true
   ·subst c18
    have H1 : (some 5) = some r := by rw [if_pos rfl] at H; exact H
    clear H
    have H := H1
    clear H1
    obtain rfl := Option.some.inj H
    go_wp2
    go_ret
    exact ⟨by first | rfl | (simp [errW_none, errW_some] <;> rfl) | (simp [*, errW_none, errW_some] <;> rfl), by repeat (first | (with_reducible first | exact HB.out | apply below_alloc | apply pw_below_drewN | apply below_drew1 | refine below_set ?_ GE124.out) | exact HB.out)⟩
   ·replace c18 := Bool.eq_false_iff.mpr c18
    subst c18
    have H1 : ((insn_class.f a0_0 a0_1 a0_2 a0_3 a0_4).bind fun t132 => (if t132 = 5 then ((insn_bitX.f a0_0 a0_1 a0_2 a0_3 a0_4).bind fun t133 => (insn_jump.j1 kj2 t125 t133 a0_0 a0_1 a0_2 a0_3 a0_4)) else (insn_jump.j1 kj2 t125 true a0_0 a0_1 a0_2 a0_3 a0_4))) = some r := by rw [if_neg (show ¬ (false = true) by decide)] at H; exact H
    clear H
    have H := H1
    clear H1
    have HC19 := am H
    clear H
    go_upto_region 4 with (fail)
    go_cut [16] (fun v16 wc => ∃ (kq : Nat) (x16_18 : Bool), v16 = .bool x16_18 ∧ Aside0 (insn_jump.j1 kq t125 x16_18 a0_0 a0_1 a0_2 a0_3 a0_4 = some r) ∧ Aside0 (kq ≤ kj2) ∧ Aside0 (wc.heap[gb124]? = some (.cells #[.int .u8 a0_0, .int .u8 a0_1, .int .u8 a0_2, .int .i16 a0_3, .int .i32 a0_4] 24 (0, 0))) ∧ Aside0 (Below w.heap.size w wc))
    case first =>
     have H := HC19.out
     clear HC19
     replace H := Option.bind_eq_some_iff.mp H
     obtain ⟨t132, A200, H⟩ := H
     try dsimp only at H
     have A20 := am A200
     clear A200
     by_cases c21 : t132 = 5
     ·rw [if_pos c21] at H
      have c21b0 : (t132 == 5) = true := beq_iff_eq.mpr c21
      have c21b1 : (t132 != 5) = false := bne_eq_false_iff_eq.mpr c21
      clear c21
      (first | rw [c21b0] | (simp only [i64_w, i32_w]; rw [c21b0]) | skip)
      replace H := Option.bind_eq_some_iff.mp H
      obtain ⟨t133, A220, H⟩ := H
      try dsimp only at H
      have A22 := am A220
      clear A220
      have H' := am H
      clear H
      have hcz23_0 : wc.cell? ⟨gb124, 0, none⟩ = some (.int .u8 a0_0) := (blk_cell BK124.out 0).trans rfl
      have hcz23_1 : wc.cell? ⟨gb124, 1, none⟩ = some (.int .u8 a0_1) := (blk_cell BK124.out 1).trans rfl
      have hcz23_2 : wc.cell? ⟨gb124, 2, none⟩ = some (.int .u8 a0_2) := (blk_cell BK124.out 2).trans rfl
      have hcz23_3 : wc.cell? ⟨gb124, 3, none⟩ = some (.int .i16 a0_3) := (blk_cell BK124.out 3).trans rfl
      have hcz23_4 : wc.cell? ⟨gb124, 4, none⟩ = some (.int .i32 a0_4) := (blk_cell BK124.out 4).trans rfl
      have hfz23_0 := blk_frozen BK124.out 0
      have hfz23_1 := blk_frozen BK124.out 1
      have hfz23_2 := blk_frozen BK124.out 2
      have hfz23_3 := blk_frozen BK124.out 3
      have hfz23_4 := blk_frozen BK124.out 4
      go_wp2_with (first | ((with_reducible refine gate_callee (f := 50) rfl ?_); refine goesL_ (some 18) rfl rfl Try.func50 (by kernel_rfl) rfl #[.agg #[.int .u8 a0_0, .int .u8 a0_1, .int .u8 a0_2, .int .i16 a0_3, .int .i32 a0_4]] rfl (by (try simp only [List.map_toArray, List.map_cons, List.map_nil]); first | done | rfl) ?_; (with_reducible refine (insn_class.calls a0_0 a0_1 a0_2 a0_3 a0_4 t132 _ A20.out).mono ?_); rintro e w24 ⟨rfl, hb⟩; refine ⟨_, rfl, ?_⟩; have n0_ := am (blk_below BK124.out hb); have n1_ := am (below_step (by repeat (first | exact HB.out | apply pb | apply pa | apply pd | refine below_set ?_ GE124.out)) hb); clear BK124; clear HB; have BK124 := n0_; have HB := n1_; clear n0_ n1_; (try clear hb); (try clear hb2); (try clear hk); (try clear hi); have hcz25_0 : w24.cell? ⟨gb124, 0, none⟩ = some (.int .u8 a0_0) := (blk_cell BK124.out 0).trans rfl; have hcz25_1 : w24.cell? ⟨gb124, 1, none⟩ = some (.int .u8 a0_1) := (blk_cell BK124.out 1).trans rfl; have hcz25_2 : w24.cell? ⟨gb124, 2, none⟩ = some (.int .u8 a0_2) := (blk_cell BK124.out 2).trans rfl; have hcz25_3 : w24.cell? ⟨gb124, 3, none⟩ = some (.int .i16 a0_3) := (blk_cell BK124.out 3).trans rfl; have hcz25_4 : w24.cell? ⟨gb124, 4, none⟩ = some (.int .i32 a0_4) := (blk_cell BK124.out 4).trans rfl; have hfz25_0 := blk_frozen BK124.out 0; have hfz25_1 := blk_frozen BK124.out 1; have hfz25_2 := blk_frozen BK124.out 2; have hfz25_3 := blk_frozen BK124.out 3; have hfz25_4 := blk_frozen BK124.out 4) | (go_at_call 58; (with_reducible refine (insn_bitX.calls a0_0 a0_1 a0_2 a0_3 a0_4 t133 _ A22.out).mono ?_); rintro e w26 ⟨rfl, hb⟩; have n0_ := am (blk_below BK124.out hb); have n1_ := am (below_step (by repeat (first | exact HB.out | apply pb | apply pa | apply pd | refine below_set ?_ GE124.out)) hb); clear BK124; clear HB; have BK124 := n0_; have HB := n1_; clear n0_ n1_; (try clear hb); (try clear hb2); (try clear hk); (try clear hi)))
      go_meet
      case rel => exact ⟨_, (t133), (by first | rfl | (simp; done) | (simp [*]; done)), H', ⟨by have := HJ2.out; first | omega | exact Nat.le_refl _⟩, ⟨by (with_reducible repeat (first | refine blk_drewN ?_ _ | refine blk_drew ?_ | refine blk_alloc ?_ _)); exact BK124.out⟩, ⟨by repeat (first | (with_reducible first | exact HB.out | apply below_alloc | apply pw_below_drewN | apply below_drew1 | refine below_set ?_ GE124.out) | exact HB.out)⟩⟩
     ·rw [if_neg c21] at H
      have c21b0 : (t132 == 5) = false := beq_eq_false_iff_ne.mpr c21
      have c21b1 : (t132 != 5) = true := bne_iff_ne.mpr c21
      (first | rw [c21b0] | (simp only [i64_w, i32_w]; rw [c21b0]) | skip)
      have H' := am H
      clear H
      have hcz27_0 : wc.cell? ⟨gb124, 0, none⟩ = some (.int .u8 a0_0) := (blk_cell BK124.out 0).trans rfl
      have hcz27_1 : wc.cell? ⟨gb124, 1, none⟩ = some (.int .u8 a0_1) := (blk_cell BK124.out 1).trans rfl
      have hcz27_2 : wc.cell? ⟨gb124, 2, none⟩ = some (.int .u8 a0_2) := (blk_cell BK124.out 2).trans rfl
      have hcz27_3 : wc.cell? ⟨gb124, 3, none⟩ = some (.int .i16 a0_3) := (blk_cell BK124.out 3).trans rfl
      have hcz27_4 : wc.cell? ⟨gb124, 4, none⟩ = some (.int .i32 a0_4) := (blk_cell BK124.out 4).trans rfl
      have hfz27_0 := blk_frozen BK124.out 0
      have hfz27_1 := blk_frozen BK124.out 1
      have hfz27_2 := blk_frozen BK124.out 2
      have hfz27_3 := blk_frozen BK124.out 3
      have hfz27_4 := blk_frozen BK124.out 4
      go_wp2_with (first | ((with_reducible refine gate_callee (f := 50) rfl ?_); refine goesL_ (some 18) rfl rfl Try.func50 (by kernel_rfl) rfl #[.agg #[.int .u8 a0_0, .int .u8 a0_1, .int .u8 a0_2, .int .i16 a0_3, .int .i32 a0_4]] rfl (by (try simp only [List.map_toArray, List.map_cons, List.map_nil]); first | done | rfl) ?_; (with_reducible refine (insn_class.calls a0_0 a0_1 a0_2 a0_3 a0_4 t132 _ A20.out).mono ?_); rintro e w28 ⟨rfl, hb⟩; refine ⟨_, rfl, ?_⟩; have n0_ := am (blk_below BK124.out hb); have n1_ := am (below_step (by repeat (first | exact HB.out | apply pb | apply pa | apply pd | refine below_set ?_ GE124.out)) hb); clear BK124; clear HB; have BK124 := n0_; have HB := n1_; clear n0_ n1_; (try clear hb); (try clear hb2); (try clear hk); (try clear hi)))
      go_meet
      case rel => exact ⟨_, (true), (by first | rfl | (simp; done) | (simp [*]; done)), H', ⟨by have := HJ2.out; first | omega | exact Nat.le_refl _⟩, ⟨by (with_reducible repeat (first | refine blk_drewN ?_ _ | refine blk_drew ?_ | refine blk_alloc ?_ _)); exact BK124.out⟩, ⟨by repeat (first | (with_reducible first | exact HB.out | apply below_alloc | apply pw_below_drewN | apply below_drew1 | refine below_set ?_ GE124.out) | exact HB.out)⟩⟩
    case rest =>
     clear HC19
     try clear c1
     try clear c2
     try clear p2
     try clear c5
     try clear c8
     try clear c9
     try clear c18
     try clear c21
     try clear c21b0
     try clear c21b1
     try clear hcz23_0
     try clear hcz23_1
     try clear hcz23_2
     try clear hcz23_3
     try clear hcz23_4
     try clear hcz25_0
     try clear hcz25_1
     try clear hcz25_2
     try clear hcz25_3
     try clear hcz25_4
     try clear hcz27_0
     try clear hcz27_1
     try clear hcz27_2
     try clear hcz27_3
     try clear hcz27_4
     try clear hcz5_0
     try clear hcz5_1
     try clear hcz5_2
     try clear hcz5_3
     try clear hcz5_4
     try clear hfz23_0
     try clear hfz23_1
     try clear hfz23_2
     try clear hfz23_3
     try clear hfz23_4
     try clear hfz25_0
     try clear hfz25_1
     try clear hfz25_2
     try clear hfz25_3
     try clear hfz25_4
     try clear hfz27_0
     try clear hfz27_1
     try clear hfz27_2
     try clear hfz27_3
     try clear hfz27_4
     try clear hfz5_0
     try clear hfz5_1
     try clear hfz5_2
     try clear hfz5_3
     try clear hfz5_4
     try clear p2
     obtain ⟨kq, x16_18, rfl, HA, HJ18, BK124, HB⟩ := hcut
     cases kq with
     | zero => exact absurd HA.out (by simp [insn_jump.j1])
     | succ kj18 =>
      have H := HA.out
      clear HA
      simp only [insn_jump.j1] at H
      by_cases c29 : x16_18 = true
      ·subst c29
       have H1 : (some 0) = some r := by rw [if_pos rfl] at H; exact H
       clear H
       have H := H1
       clear H1
       obtain rfl := Option.some.inj H
       go_wp2
       go_ret
       exact ⟨by first | rfl | (simp [errW_none, errW_some] <;> rfl) | (simp [*, errW_none, errW_some] <;> rfl), by repeat (first | (with_reducible first | exact HB.out | apply below_alloc | apply pw_below_drewN | apply below_drew1 | refine below_set ?_ GE124.out) | exact HB.out)⟩
      ·replace c29 := Bool.eq_false_iff.mpr c29
       subst c29
       have H1 : (if t125 = 0 then ((insn_uses.f kj18 a0_0 a0_1 a0_2 a0_3 a0_4 (([4] : List Int))).bind fun t137 => (insn_jump.j2 kj18 t125 t137 a0_0 a0_1 a0_2 a0_3 a0_4)) else (insn_jump.j2 kj18 t125 false a0_0 a0_1 a0_2 a0_3 a0_4)) = some r := by rw [if_neg (show ¬ (false = true) by decide)] at H; exact H
       clear H
       have H := H1
       clear H1
       have HC30 := am H
       clear H
       go_upto_region 5 with (fail)
       go_cut [24] (fun v24 wc => ∃ (kq : Nat) (x24_29 : Bool), v24 = .bool x24_29 ∧ Aside0 (insn_jump.j2 kq t125 x24_29 a0_0 a0_1 a0_2 a0_3 a0_4 = some r) ∧ Aside0 (kq ≤ kj18) ∧ Aside0 (wc.heap[gb124]? = some (.cells #[.int .u8 a0_0, .int .u8 a0_1, .int .u8 a0_2, .int .i16 a0_3, .int .i32 a0_4] 24 (0, 0))) ∧ Aside0 (Below w.heap.size w wc))
       case first =>
        have H := HC30.out
        clear HC30
        by_cases c31 : t125 = 0
        ·rw [if_pos c31] at H
         have c31b0 : (t125 == 0) = true := beq_iff_eq.mpr c31
         have c31b1 : (t125 != 0) = false := bne_eq_false_iff_eq.mpr c31
         clear c31
         (first | rw [c31b0] | (simp only [i64_w, i32_w]; rw [c31b0]) | skip)
         obtain ⟨y134, hy134⟩ : ∃ y_ : List Int, y_ = (([4] : List Int)) := ⟨_, rfl⟩
         replace H : ((insn_uses.f kj18 a0_0 a0_1 a0_2 a0_3 a0_4 y134).bind fun t137 => (insn_jump.j2 kj18 t125 t137 a0_0 a0_1 a0_2 a0_3 a0_4)) = some r := by first | (rw [hy134]; with_reducible exact H) | (have H2_ := (Option.bind_some _ _).symm.trans H; rw [hy134]; with_reducible exact H2_) | (have H2_ := (Option.bind_some _ _).symm.trans H; with_reducible exact H2_) | with_reducible exact H | (rw [hy134]; exact H) | exact H
         have Ny134 := am hy134
         clear hy134
         replace H := Option.bind_eq_some_iff.mp H
         obtain ⟨t137, A320, H⟩ := H
         try dsimp only at H
         have A32 := am A320
         clear A320
         have H' := am H
         clear H
         have hcz33_0 : wc.cell? ⟨gb124, 0, none⟩ = some (.int .u8 a0_0) := (blk_cell BK124.out 0).trans rfl
         have hcz33_1 : wc.cell? ⟨gb124, 1, none⟩ = some (.int .u8 a0_1) := (blk_cell BK124.out 1).trans rfl
         have hcz33_2 : wc.cell? ⟨gb124, 2, none⟩ = some (.int .u8 a0_2) := (blk_cell BK124.out 2).trans rfl
         have hcz33_3 : wc.cell? ⟨gb124, 3, none⟩ = some (.int .i16 a0_3) := (blk_cell BK124.out 3).trans rfl
         have hcz33_4 : wc.cell? ⟨gb124, 4, none⟩ = some (.int .i32 a0_4) := (blk_cell BK124.out 4).trans rfl
         have hfz33_0 := blk_frozen BK124.out 0
         have hfz33_1 := blk_frozen BK124.out 1
         have hfz33_2 := blk_frozen BK124.out 2
         have hfz33_3 := blk_frozen BK124.out 3
         have hfz33_4 := blk_frozen BK124.out 4
         go_wp2_with (first | ((with_reducible refine gate_dst (N := 29) rfl ?_); (try (refine gate_guard (by rfl) ?_; dsimp only)); refine Kd.R_lit (Kd.int .i64) _ 3 ?hg (N := 29) ?hd (xs := ([4] : List Int)) (inner := [.int .i64 4]) (ok := fun _ => True) (okp := fun _ => True) ?hr ?hp (fun _ hk => hk) trivial (Below.refl _ _) (Nat.le_refl _) (by simp) ?_; (case hd => rfl); (case hg => rfl); (case hr => first | (go_simp; done) | (go_simp; rfl)); (case hp => exact (Reps.one (show Kd.M (Kd.int .i64) _ _ _ 4 [.int .i64 4] from rfl) (Reps.none _ _))); intro v135 w34 ho35 hb hg_ hnew_; clear hg_ hnew_; (first | rw [← Ny134.out] at ho35 | (simp only [Int.reduceToNat] at ho35; rw [← Ny134.out] at ho35)); have n0_ := am (Kd.R_lower ho35 (below_size (by repeat (first | exact HB.out | apply pb | apply pa | apply pd | refine below_set ?_ GE124.out)))); have n1_ := am (blk_below BK124.out hb); have n2_ := am (below_step (by repeat (first | exact HB.out | apply pb | apply pa | apply pd | refine below_set ?_ GE124.out)) hb); clear BK124; clear HB; have HO136 := n0_; have BK124 := n1_; have HB := n2_; clear n0_ n1_ n2_; clear hb ho35; obtain ⟨Ao36, co36, eo36⟩ := Kd.R_slice HO136.out; subst eo36) | (go_at_call 53; (with_reducible refine (insn_uses.calls kj18 a0_0 a0_1 a0_2 a0_3 a0_4 _ _ y134 t137 _ ?side1 ?side2 A32.out).mono ?_); (case side1 => repeat (first | exact (Kd.R_reads' HO136.out).2.2 | (with_reducible refine Kd.C_alloc ?_ _) | (with_reducible refine Kd.C_drewN ?_ _) | (with_reducible refine Kd.C_drew ?_))); (case side2 => exact (Kd.R_reads' HO136.out).2.1); rintro e w37 ⟨rfl, hb⟩; have n0_ := am (Kd.R_below (by (with_reducible repeat (first | apply Kd.R_alloc | apply Kd.R_drewN | apply Kd.R_drew)); exact HO136.out) hb); have n1_ := am (blk_below BK124.out hb); have n2_ := am (below_step (by repeat (first | exact HB.out | apply pb | apply pa | apply pd | refine below_set ?_ GE124.out)) hb); clear HO136; clear BK124; clear HB; have HO136 := n0_; have BK124 := n1_; have HB := n2_; clear n0_ n1_ n2_; (try clear hb); (try clear hb2); (try clear hk); (try clear hi)))
         go_meet
         case rel => exact ⟨_, (t137), (by first | rfl | (simp; done) | (simp [*]; done)), H', ⟨by have := HJ2.out; have := HJ18.out; first | omega | exact Nat.le_refl _⟩, ⟨by (with_reducible repeat (first | refine blk_drewN ?_ _ | refine blk_drew ?_ | refine blk_alloc ?_ _)); exact BK124.out⟩, ⟨by repeat (first | (with_reducible first | exact HB.out | apply below_alloc | apply pw_below_drewN | apply below_drew1 | refine below_set ?_ GE124.out) | exact HB.out)⟩⟩
        ·rw [if_neg c31] at H
         have c31b0 : (t125 == 0) = false := beq_eq_false_iff_ne.mpr c31
         have c31b1 : (t125 != 0) = true := bne_iff_ne.mpr c31
         (first | rw [c31b0] | (simp only [i64_w, i32_w]; rw [c31b0]) | skip)
         have H' := am H
         clear H
         go_wp2
         go_meet
         case rel => exact ⟨_, (false), (by first | rfl | (simp; done) | (simp [*]; done)), H', ⟨by have := HJ2.out; have := HJ18.out; first | omega | exact Nat.le_refl _⟩, ⟨by (with_reducible repeat (first | refine blk_drewN ?_ _ | refine blk_drew ?_ | refine blk_alloc ?_ _)); exact BK124.out⟩, ⟨by repeat (first | (with_reducible first | exact HB.out | apply below_alloc | apply pw_below_drewN | apply below_drew1 | refine below_set ?_ GE124.out) | exact HB.out)⟩⟩
       case rest =>
        clear HC30
        try clear c1
        try clear c2
        try clear p2
        try clear c3
        try clear c5
        try clear c8
        try clear c9
        try clear c18
        try clear c21
        try clear c21b0
        try clear c21b1
        try clear c29
        try clear c31
        try clear c31b0
        try clear c31b1
        try clear hcz23_0
        try clear hcz23_1
        try clear hcz23_2
        try clear hcz23_3
        try clear hcz23_4
        try clear hcz25_0
        try clear hcz25_1
        try clear hcz25_2
        try clear hcz25_3
        try clear hcz25_4
        try clear hcz27_0
        try clear hcz27_1
        try clear hcz27_2
        try clear hcz27_3
        try clear hcz27_4
        try clear hcz33_0
        try clear hcz33_1
        try clear hcz33_2
        try clear hcz33_3
        try clear hcz33_4
        try clear hcz5_0
        try clear hcz5_1
        try clear hcz5_2
        try clear hcz5_3
        try clear hcz5_4
        try clear hfz23_0
        try clear hfz23_1
        try clear hfz23_2
        try clear hfz23_3
        try clear hfz23_4
        try clear hfz25_0
        try clear hfz25_1
        try clear hfz25_2
        try clear hfz25_3
        try clear hfz25_4
        try clear hfz27_0
        try clear hfz27_1
        try clear hfz27_2
        try clear hfz27_3
        try clear hfz27_4
        try clear hfz33_0
        try clear hfz33_1
        try clear hfz33_2
        try clear hfz33_3
        try clear hfz33_4
        try clear hfz5_0
        try clear hfz5_1
        try clear hfz5_2
        try clear hfz5_3
        try clear hfz5_4
        try clear p2
        obtain ⟨kq, x24_29, rfl, HA, HJ29, BK124, HB⟩ := hcut
        cases kq with
        | zero => exact absurd HA.out (by simp [insn_jump.j2])
        | succ kj29 =>
         have H := HA.out
         clear HA
         simp only [insn_jump.j2] at H
         by_cases c38 : x24_29 = true
         ·subst c38
          have H1 : (some 10) = some r := by rw [if_pos rfl] at H; exact H
          clear H
          have H := H1
          clear H1
          obtain rfl := Option.some.inj H
          go_wp2
          go_ret
          exact ⟨by first | rfl | (simp [errW_none, errW_some] <;> rfl) | (simp [*, errW_none, errW_some] <;> rfl), by repeat (first | (with_reducible first | exact HB.out | apply below_alloc | apply pw_below_drewN | apply below_drew1 | refine below_set ?_ GE124.out) | exact HB.out)⟩
         ·replace c38 := Bool.eq_false_iff.mpr c38
          subst c38
          have H1 : (if t125 = 9 then ((insn_uses.f kj29 a0_0 a0_1 a0_2 a0_3 a0_4 ([] : List Int)).bind fun t138 => (insn_jump.j3 kj29 t125 t138 a0_0 a0_1 a0_2 a0_3 a0_4)) else (insn_jump.j3 kj29 t125 false a0_0 a0_1 a0_2 a0_3 a0_4)) = some r := by rw [if_neg (show ¬ (false = true) by decide)] at H; exact H
          clear H
          have H := H1
          clear H1
          have HC39 := am H
          clear H
          go_upto_region 7 with (fail)
          go_cut [32] (fun v32 wc => ∃ (kq : Nat) (x32_38 : Bool), v32 = .bool x32_38 ∧ Aside0 (insn_jump.j3 kq t125 x32_38 a0_0 a0_1 a0_2 a0_3 a0_4 = some r) ∧ Aside0 (kq ≤ kj29) ∧ Aside0 (wc.heap[gb124]? = some (.cells #[.int .u8 a0_0, .int .u8 a0_1, .int .u8 a0_2, .int .i16 a0_3, .int .i32 a0_4] 24 (0, 0))) ∧ Aside0 (Below w.heap.size w wc))
          case first =>
           have H := HC39.out
           clear HC39
           by_cases c40 : t125 = 9
           ·rw [if_pos c40] at H
            have c40b0 : (t125 == 9) = true := beq_iff_eq.mpr c40
            have c40b1 : (t125 != 9) = false := bne_eq_false_iff_eq.mpr c40
            clear c40
            (first | rw [c40b0] | (simp only [i64_w, i32_w]; rw [c40b0]) | skip)
            replace H := Option.bind_eq_some_iff.mp H
            obtain ⟨t138, A410, H⟩ := H
            try dsimp only at H
            have A41 := am A410
            clear A410
            have H' := am H
            clear H
            have hcz42_0 : wc.cell? ⟨gb124, 0, none⟩ = some (.int .u8 a0_0) := (blk_cell BK124.out 0).trans rfl
            have hcz42_1 : wc.cell? ⟨gb124, 1, none⟩ = some (.int .u8 a0_1) := (blk_cell BK124.out 1).trans rfl
            have hcz42_2 : wc.cell? ⟨gb124, 2, none⟩ = some (.int .u8 a0_2) := (blk_cell BK124.out 2).trans rfl
            have hcz42_3 : wc.cell? ⟨gb124, 3, none⟩ = some (.int .i16 a0_3) := (blk_cell BK124.out 3).trans rfl
            have hcz42_4 : wc.cell? ⟨gb124, 4, none⟩ = some (.int .i32 a0_4) := (blk_cell BK124.out 4).trans rfl
            have hfz42_0 := blk_frozen BK124.out 0
            have hfz42_1 := blk_frozen BK124.out 1
            have hfz42_2 := blk_frozen BK124.out 2
            have hfz42_3 := blk_frozen BK124.out 3
            have hfz42_4 := blk_frozen BK124.out 4
            go_wp2_with (first | (go_at_call 53; (refine (insn_uses.calls kj29 a0_0 a0_1 a0_2 a0_3 a0_4 _ _ ([] : List Int) t138 _ ?side1 ?side2 A41.out).mono ?_); (case side1 => exact Kd.C_nil _ _); (case side2 => exact Nat.le_refl _); rintro e w43 ⟨rfl, hb⟩; have n0_ := am (blk_below BK124.out hb); have n1_ := am (below_step (by repeat (first | exact HB.out | apply pb | apply pa | apply pd | refine below_set ?_ GE124.out)) hb); clear BK124; clear HB; have BK124 := n0_; have HB := n1_; clear n0_ n1_; (try clear hb); (try clear hb2); (try clear hk); (try clear hi)))
            go_meet
            case rel => exact ⟨_, (t138), (by first | rfl | (simp; done) | (simp [*]; done)), H', ⟨by have := HJ2.out; have := HJ18.out; have := HJ29.out; first | omega | exact Nat.le_refl _⟩, ⟨by (with_reducible repeat (first | refine blk_drewN ?_ _ | refine blk_drew ?_ | refine blk_alloc ?_ _)); exact BK124.out⟩, ⟨by repeat (first | (with_reducible first | exact HB.out | apply below_alloc | apply pw_below_drewN | apply below_drew1 | refine below_set ?_ GE124.out) | exact HB.out)⟩⟩
           ·rw [if_neg c40] at H
            have c40b0 : (t125 == 9) = false := beq_eq_false_iff_ne.mpr c40
            have c40b1 : (t125 != 9) = true := bne_iff_ne.mpr c40
            (first | rw [c40b0] | (simp only [i64_w, i32_w]; rw [c40b0]) | skip)
            have H' := am H
            clear H
            go_wp2
            go_meet
            case rel => exact ⟨_, (false), (by first | rfl | (simp; done) | (simp [*]; done)), H', ⟨by have := HJ2.out; have := HJ18.out; have := HJ29.out; first | omega | exact Nat.le_refl _⟩, ⟨by (with_reducible repeat (first | refine blk_drewN ?_ _ | refine blk_drew ?_ | refine blk_alloc ?_ _)); exact BK124.out⟩, ⟨by repeat (first | (with_reducible first | exact HB.out | apply below_alloc | apply pw_below_drewN | apply below_drew1 | refine below_set ?_ GE124.out) | exact HB.out)⟩⟩
          case rest =>
           clear HC39
           try clear c1
           try clear c2
           try clear p2
           try clear c3
           try clear c4
           try clear c5
           try clear c8
           try clear c9
           try clear c18
           try clear c21
           try clear c21b0
           try clear c21b1
           try clear c29
           try clear c31
           try clear c31b0
           try clear c31b1
           try clear c38
           try clear c40
           try clear c40b0
           try clear c40b1
           try clear hcz23_0
           try clear hcz23_1
           try clear hcz23_2
           try clear hcz23_3
           try clear hcz23_4
           try clear hcz25_0
           try clear hcz25_1
           try clear hcz25_2
           try clear hcz25_3
           try clear hcz25_4
           try clear hcz27_0
           try clear hcz27_1
           try clear hcz27_2
           try clear hcz27_3
           try clear hcz27_4
           try clear hcz33_0
           try clear hcz33_1
           try clear hcz33_2
           try clear hcz33_3
           try clear hcz33_4
           try clear hcz42_0
           try clear hcz42_1
           try clear hcz42_2
           try clear hcz42_3
           try clear hcz42_4
           try clear hcz5_0
           try clear hcz5_1
           try clear hcz5_2
           try clear hcz5_3
           try clear hcz5_4
           try clear hfz23_0
           try clear hfz23_1
           try clear hfz23_2
           try clear hfz23_3
           try clear hfz23_4
           try clear hfz25_0
           try clear hfz25_1
           try clear hfz25_2
           try clear hfz25_3
           try clear hfz25_4
           try clear hfz27_0
           try clear hfz27_1
           try clear hfz27_2
           try clear hfz27_3
           try clear hfz27_4
           try clear hfz33_0
           try clear hfz33_1
           try clear hfz33_2
           try clear hfz33_3
           try clear hfz33_4
           try clear hfz42_0
           try clear hfz42_1
           try clear hfz42_2
           try clear hfz42_3
           try clear hfz42_4
           try clear hfz5_0
           try clear hfz5_1
           try clear hfz5_2
           try clear hfz5_3
           try clear hfz5_4
           try clear p2
           obtain ⟨kq, x32_38, rfl, HA, HJ38, BK124, HB⟩ := hcut
           cases kq with
           | zero => exact absurd HA.out (by simp [insn_jump.j3])
           | succ kj38 =>
            have H := HA.out
            clear HA
            simp only [insn_jump.j3] at H
            by_cases c44 : x32_38 = true
            ·subst c44
             have H1 : (some 8) = some r := by rw [if_pos rfl] at H; exact H
             clear H
             have H := H1
             clear H1
             obtain rfl := Option.some.inj H
             go_wp2
             go_ret
             exact ⟨by first | rfl | (simp [errW_none, errW_some] <;> rfl) | (simp [*, errW_none, errW_some] <;> rfl), by repeat (first | (with_reducible first | exact HB.out | apply below_alloc | apply pw_below_drewN | apply below_drew1 | refine below_set ?_ GE124.out) | exact HB.out)⟩
            ·replace c44 := Bool.eq_false_iff.mpr c44
             subst c44
             have H1 : (if t125 = 8 then (if a0_2 = 0 then ((insn_uses.f kj38 a0_0 a0_1 a0_2 a0_3 a0_4 (([8] : List Int))).bind fun t142 => (insn_jump.j4 kj38 t125 t142 a0_0 a0_1 a0_2 a0_3 a0_4)) else (insn_jump.j4 kj38 t125 false a0_0 a0_1 a0_2 a0_3 a0_4)) else (insn_jump.j4 kj38 t125 false a0_0 a0_1 a0_2 a0_3 a0_4)) = some r := by rw [if_neg (show ¬ (false = true) by decide)] at H; exact H
             clear H
             have H := H1
             clear H1
             have HC45 := am H
             clear H
             go_upto_region 9 with (fail)
             go_cut [39] (fun v39 wc => ∃ (kq : Nat) (x39_44 : Bool), v39 = .bool x39_44 ∧ Aside0 (insn_jump.j4 kq t125 x39_44 a0_0 a0_1 a0_2 a0_3 a0_4 = some r) ∧ Aside0 (kq ≤ kj38) ∧ Aside0 (wc.heap[gb124]? = some (.cells #[.int .u8 a0_0, .int .u8 a0_1, .int .u8 a0_2, .int .i16 a0_3, .int .i32 a0_4] 24 (0, 0))) ∧ Aside0 (Below w.heap.size w wc))
             case first =>
              have H := HC45.out
              clear HC45
              by_cases c46 : t125 = 8
              ·rw [if_pos c46] at H
               have c46b0 : (t125 == 8) = true := beq_iff_eq.mpr c46
               have c46b1 : (t125 != 8) = false := bne_eq_false_iff_eq.mpr c46
               clear c46
               (first | rw [c46b0] | (simp only [i64_w, i32_w]; rw [c46b0]) | skip)
               by_cases c47 : a0_2 = 0
               ·rw [if_pos c47] at H
                have c47b0 : (a0_2 == 0) = true := beq_iff_eq.mpr c47
                have c47b1 : (a0_2 != 0) = false := bne_eq_false_iff_eq.mpr c47
                clear c47
                obtain ⟨y139, hy139⟩ : ∃ y_ : List Int, y_ = (([8] : List Int)) := ⟨_, rfl⟩
                replace H : ((insn_uses.f kj38 a0_0 a0_1 a0_2 a0_3 a0_4 y139).bind fun t142 => (insn_jump.j4 kj38 t125 t142 a0_0 a0_1 a0_2 a0_3 a0_4)) = some r := by first | (rw [hy139]; with_reducible exact H) | (have H2_ := (Option.bind_some _ _).symm.trans H; rw [hy139]; with_reducible exact H2_) | (have H2_ := (Option.bind_some _ _).symm.trans H; with_reducible exact H2_) | with_reducible exact H | (rw [hy139]; exact H) | exact H
                have Ny139 := am hy139
                clear hy139
                replace H := Option.bind_eq_some_iff.mp H
                obtain ⟨t142, A480, H⟩ := H
                try dsimp only at H
                have A48 := am A480
                clear A480
                have H' := am H
                clear H
                have hcz49_0 : wc.cell? ⟨gb124, 0, none⟩ = some (.int .u8 a0_0) := (blk_cell BK124.out 0).trans rfl
                have hcz49_1 : wc.cell? ⟨gb124, 1, none⟩ = some (.int .u8 a0_1) := (blk_cell BK124.out 1).trans rfl
                have hcz49_2 : wc.cell? ⟨gb124, 2, none⟩ = some (.int .u8 a0_2) := (blk_cell BK124.out 2).trans rfl
                have hcz49_3 : wc.cell? ⟨gb124, 3, none⟩ = some (.int .i16 a0_3) := (blk_cell BK124.out 3).trans rfl
                have hcz49_4 : wc.cell? ⟨gb124, 4, none⟩ = some (.int .i32 a0_4) := (blk_cell BK124.out 4).trans rfl
                have hfz49_0 := blk_frozen BK124.out 0
                have hfz49_1 := blk_frozen BK124.out 1
                have hfz49_2 := blk_frozen BK124.out 2
                have hfz49_3 := blk_frozen BK124.out 3
                have hfz49_4 := blk_frozen BK124.out 4
                go_wp2_with (first | ((with_reducible refine gate_dst (N := 49) rfl ?_); (try (refine gate_guard (by rfl) ?_; dsimp only)); refine Kd.R_lit (Kd.int .i64) _ 3 ?hg (N := 49) ?hd (xs := ([8] : List Int)) (inner := [.int .i64 8]) (ok := fun _ => True) (okp := fun _ => True) ?hr ?hp (fun _ hk => hk) trivial (Below.refl _ _) (Nat.le_refl _) (by simp) ?_; (case hd => rfl); (case hg => rfl); (case hr => first | (go_simp; done) | (go_simp; rfl)); (case hp => exact (Reps.one (show Kd.M (Kd.int .i64) _ _ _ 8 [.int .i64 8] from rfl) (Reps.none _ _))); intro v140 w50 ho51 hb hg_ hnew_; clear hg_ hnew_; (first | rw [← Ny139.out] at ho51 | (simp only [Int.reduceToNat] at ho51; rw [← Ny139.out] at ho51)); have n0_ := am (Kd.R_lower ho51 (below_size (by repeat (first | exact HB.out | apply pb | apply pa | apply pd | refine below_set ?_ GE124.out)))); have n1_ := am (blk_below BK124.out hb); have n2_ := am (below_step (by repeat (first | exact HB.out | apply pb | apply pa | apply pd | refine below_set ?_ GE124.out)) hb); clear BK124; clear HB; have HO141 := n0_; have BK124 := n1_; have HB := n2_; clear n0_ n1_ n2_; clear hb ho51; obtain ⟨Ao52, co52, eo52⟩ := Kd.R_slice HO141.out; subst eo52) | (go_at_call 53; (with_reducible refine (insn_uses.calls kj38 a0_0 a0_1 a0_2 a0_3 a0_4 _ _ y139 t142 _ ?side1 ?side2 A48.out).mono ?_); (case side1 => repeat (first | exact (Kd.R_reads' HO141.out).2.2 | (with_reducible refine Kd.C_alloc ?_ _) | (with_reducible refine Kd.C_drewN ?_ _) | (with_reducible refine Kd.C_drew ?_))); (case side2 => exact (Kd.R_reads' HO141.out).2.1); rintro e w53 ⟨rfl, hb⟩; have n0_ := am (Kd.R_below (by (with_reducible repeat (first | apply Kd.R_alloc | apply Kd.R_drewN | apply Kd.R_drew)); exact HO141.out) hb); have n1_ := am (blk_below BK124.out hb); have n2_ := am (below_step (by repeat (first | exact HB.out | apply pb | apply pa | apply pd | refine below_set ?_ GE124.out)) hb); clear HO141; clear BK124; clear HB; have HO141 := n0_; have BK124 := n1_; have HB := n2_; clear n0_ n1_ n2_; (try clear hb); (try clear hb2); (try clear hk); (try clear hi)))
                go_meet
                case rel => exact ⟨_, (t142), (by first | rfl | (simp; done) | (simp [*]; done)), H', ⟨by have := HJ2.out; have := HJ18.out; have := HJ29.out; have := HJ38.out; first | omega | exact Nat.le_refl _⟩, ⟨by (with_reducible repeat (first | refine blk_drewN ?_ _ | refine blk_drew ?_ | refine blk_alloc ?_ _)); exact BK124.out⟩, ⟨by repeat (first | (with_reducible first | exact HB.out | apply below_alloc | apply pw_below_drewN | apply below_drew1 | refine below_set ?_ GE124.out) | exact HB.out)⟩⟩
               ·rw [if_neg c47] at H
                have c47b0 : (a0_2 == 0) = false := beq_eq_false_iff_ne.mpr c47
                have c47b1 : (a0_2 != 0) = true := bne_iff_ne.mpr c47
                have H' := am H
                clear H
                have hcz54_0 : wc.cell? ⟨gb124, 0, none⟩ = some (.int .u8 a0_0) := (blk_cell BK124.out 0).trans rfl
                have hcz54_1 : wc.cell? ⟨gb124, 1, none⟩ = some (.int .u8 a0_1) := (blk_cell BK124.out 1).trans rfl
                have hcz54_2 : wc.cell? ⟨gb124, 2, none⟩ = some (.int .u8 a0_2) := (blk_cell BK124.out 2).trans rfl
                have hcz54_3 : wc.cell? ⟨gb124, 3, none⟩ = some (.int .i16 a0_3) := (blk_cell BK124.out 3).trans rfl
                have hcz54_4 : wc.cell? ⟨gb124, 4, none⟩ = some (.int .i32 a0_4) := (blk_cell BK124.out 4).trans rfl
                have hfz54_0 := blk_frozen BK124.out 0
                have hfz54_1 := blk_frozen BK124.out 1
                have hfz54_2 := blk_frozen BK124.out 2
                have hfz54_3 := blk_frozen BK124.out 3
                have hfz54_4 := blk_frozen BK124.out 4
                go_wp2
                go_meet
                case rel => exact ⟨_, (false), (by first | rfl | (simp; done) | (simp [*]; done)), H', ⟨by have := HJ2.out; have := HJ18.out; have := HJ29.out; have := HJ38.out; first | omega | exact Nat.le_refl _⟩, ⟨by (with_reducible repeat (first | refine blk_drewN ?_ _ | refine blk_drew ?_ | refine blk_alloc ?_ _)); exact BK124.out⟩, ⟨by repeat (first | (with_reducible first | exact HB.out | apply below_alloc | apply pw_below_drewN | apply below_drew1 | refine below_set ?_ GE124.out) | exact HB.out)⟩⟩
              ·rw [if_neg c46] at H
               have c46b0 : (t125 == 8) = false := beq_eq_false_iff_ne.mpr c46
               have c46b1 : (t125 != 8) = true := bne_iff_ne.mpr c46
               (first | rw [c46b0] | (simp only [i64_w, i32_w]; rw [c46b0]) | skip)
               have H' := am H
               clear H
               go_wp2
               go_meet
               case rel => exact ⟨_, (false), (by first | rfl | (simp; done) | (simp [*]; done)), H', ⟨by have := HJ2.out; have := HJ18.out; have := HJ29.out; have := HJ38.out; first | omega | exact Nat.le_refl _⟩, ⟨by (with_reducible repeat (first | refine blk_drewN ?_ _ | refine blk_drew ?_ | refine blk_alloc ?_ _)); exact BK124.out⟩, ⟨by repeat (first | (with_reducible first | exact HB.out | apply below_alloc | apply pw_below_drewN | apply below_drew1 | refine below_set ?_ GE124.out) | exact HB.out)⟩⟩
             case rest =>
              clear HC45
              try clear c1
              try clear c2
              try clear p2
              try clear c3
              try clear c4
              try clear c5
              try clear c8
              try clear c9
              try clear c18
              try clear c21
              try clear c21b0
              try clear c21b1
              try clear c29
              try clear c31
              try clear c31b0
              try clear c31b1
              try clear c38
              try clear c40
              try clear c40b0
              try clear c40b1
              try clear c44
              try clear c46
              try clear c46b0
              try clear c46b1
              try clear c47
              try clear c47b0
              try clear c47b1
              try clear c50
              try clear hcz23_0
              try clear hcz23_1
              try clear hcz23_2
              try clear hcz23_3
              try clear hcz23_4
              try clear hcz25_0
              try clear hcz25_1
              try clear hcz25_2
              try clear hcz25_3
              try clear hcz25_4
              try clear hcz27_0
              try clear hcz27_1
              try clear hcz27_2
              try clear hcz27_3
              try clear hcz27_4
              try clear hcz33_0
              try clear hcz33_1
              try clear hcz33_2
              try clear hcz33_3
              try clear hcz33_4
              try clear hcz42_0
              try clear hcz42_1
              try clear hcz42_2
              try clear hcz42_3
              try clear hcz42_4
              try clear hcz49_0
              try clear hcz49_1
              try clear hcz49_2
              try clear hcz49_3
              try clear hcz49_4
              try clear hcz54_0
              try clear hcz54_1
              try clear hcz54_2
              try clear hcz54_3
              try clear hcz54_4
              try clear hcz5_0
              try clear hcz5_1
              try clear hcz5_2
              try clear hcz5_3
              try clear hcz5_4
              try clear hfz23_0
              try clear hfz23_1
              try clear hfz23_2
              try clear hfz23_3
              try clear hfz23_4
              try clear hfz25_0
              try clear hfz25_1
              try clear hfz25_2
              try clear hfz25_3
              try clear hfz25_4
              try clear hfz27_0
              try clear hfz27_1
              try clear hfz27_2
              try clear hfz27_3
              try clear hfz27_4
              try clear hfz33_0
              try clear hfz33_1
              try clear hfz33_2
              try clear hfz33_3
              try clear hfz33_4
              try clear hfz42_0
              try clear hfz42_1
              try clear hfz42_2
              try clear hfz42_3
              try clear hfz42_4
              try clear hfz49_0
              try clear hfz49_1
              try clear hfz49_2
              try clear hfz49_3
              try clear hfz49_4
              try clear hfz54_0
              try clear hfz54_1
              try clear hfz54_2
              try clear hfz54_3
              try clear hfz54_4
              try clear hfz5_0
              try clear hfz5_1
              try clear hfz5_2
              try clear hfz5_3
              try clear hfz5_4
              try clear p2
              obtain ⟨kq, x39_44, rfl, HA, HJ44, BK124, HB⟩ := hcut
              cases kq with
              | zero => exact absurd HA.out (by simp [insn_jump.j4])
              | succ kj44 =>
               have H := HA.out
               clear HA
               simp only [insn_jump.j4] at H
               by_cases c55 : x39_44 = true
               ·subst c55
                have H1 : (some 6) = some r := by rw [if_pos rfl] at H; exact H
                clear H
                have H := H1
                clear H1
                obtain rfl := Option.some.inj H
                go_wp2
                go_ret
                exact ⟨by first | rfl | (simp [errW_none, errW_some] <;> rfl) | (simp [*, errW_none, errW_some] <;> rfl), by repeat (first | (with_reducible first | exact HB.out | apply below_alloc | apply pw_below_drewN | apply below_drew1 | refine below_set ?_ GE124.out) | exact HB.out)⟩
               ·replace c55 := Bool.eq_false_iff.mpr c55
                subst c55
                have H1 : (if t125 = 8 then (if a0_2 = 1 then ((insn_uses.f kj44 a0_0 a0_1 a0_2 a0_3 a0_4 (([2, 8] : List Int))).bind fun t146 => (if t146 = true then (some 7) else (some 0))) else (some 0)) else (some 0)) = some r := by rw [if_neg (show ¬ (false = true) by decide)] at H; exact H
                clear H
                have H := H1
                clear H1
                by_cases c56 : t125 = 8
                ·rw [if_pos c56] at H
                 have c56b0 : (t125 == 8) = true := beq_iff_eq.mpr c56
                 have c56b1 : (t125 != 8) = false := bne_eq_false_iff_eq.mpr c56
                 clear c56
                 by_cases c57 : a0_2 = 1
                 ·rw [if_pos c57] at H
                  have c57b0 : (a0_2 == 1) = true := beq_iff_eq.mpr c57
                  have c57b1 : (a0_2 != 1) = false := bne_eq_false_iff_eq.mpr c57
                  clear c57
                  obtain ⟨y143, hy143⟩ : ∃ y_ : List Int, y_ = (([2, 8] : List Int)) := ⟨_, rfl⟩
                  replace H : ((insn_uses.f kj44 a0_0 a0_1 a0_2 a0_3 a0_4 y143).bind fun t146 => (if t146 = true then (some 7) else (some 0))) = some r := by first | (rw [hy143]; with_reducible exact H) | (have H2_ := (Option.bind_some _ _).symm.trans H; rw [hy143]; with_reducible exact H2_) | (have H2_ := (Option.bind_some _ _).symm.trans H; with_reducible exact H2_) | with_reducible exact H | (rw [hy143]; exact H) | exact H
                  have Ny143 := am hy143
                  clear hy143
                  replace H := Option.bind_eq_some_iff.mp H
                  obtain ⟨t146, A580, H⟩ := H
                  try dsimp only at H
                  have A58 := am A580
                  clear A580
                  by_cases c59 : t146 = true
                  ·subst c59
                   have H1 : (some 7) = some r := by rw [if_pos rfl] at H; exact H
                   clear H
                   have H := H1
                   clear H1
                   obtain rfl := Option.some.inj H
                   have hcz60_0 : wc.cell? ⟨gb124, 0, none⟩ = some (.int .u8 a0_0) := (blk_cell BK124.out 0).trans rfl
                   have hcz60_1 : wc.cell? ⟨gb124, 1, none⟩ = some (.int .u8 a0_1) := (blk_cell BK124.out 1).trans rfl
                   have hcz60_2 : wc.cell? ⟨gb124, 2, none⟩ = some (.int .u8 a0_2) := (blk_cell BK124.out 2).trans rfl
                   have hcz60_3 : wc.cell? ⟨gb124, 3, none⟩ = some (.int .i16 a0_3) := (blk_cell BK124.out 3).trans rfl
                   have hcz60_4 : wc.cell? ⟨gb124, 4, none⟩ = some (.int .i32 a0_4) := (blk_cell BK124.out 4).trans rfl
                   have hfz60_0 := blk_frozen BK124.out 0
                   have hfz60_1 := blk_frozen BK124.out 1
                   have hfz60_2 := blk_frozen BK124.out 2
                   have hfz60_3 := blk_frozen BK124.out 3
                   have hfz60_4 := blk_frozen BK124.out 4
                   go_wp2_with (first | ((with_reducible refine gate_dst (N := 62) rfl ?_); (try (refine gate_guard (by rfl) ?_; dsimp only)); refine Kd.R_lit (Kd.int .i64) _ 3 ?hg (N := 62) ?hd (xs := ([2, 8] : List Int)) (inner := [.int .i64 2, .int .i64 8]) (ok := fun _ => True) (okp := fun _ => True) ?hr ?hp (fun _ hk => hk) trivial (Below.refl _ _) (Nat.le_refl _) (by simp) ?_; (case hd => rfl); (case hg => rfl); (case hr => first | (go_simp; done) | (go_simp; rfl)); (case hp => exact (Reps.one (show Kd.M (Kd.int .i64) _ _ _ 2 [.int .i64 2] from rfl) (Reps.one (show Kd.M (Kd.int .i64) _ _ _ 8 [.int .i64 8] from rfl) (Reps.none _ _)))); intro v144 w61 ho62 hb hg_ hnew_; clear hg_ hnew_; (first | rw [← Ny143.out] at ho62 | (simp only [Int.reduceToNat] at ho62; rw [← Ny143.out] at ho62)); have n0_ := am (Kd.R_lower ho62 (below_size (by repeat (first | exact HB.out | apply pb | apply pa | apply pd | refine below_set ?_ GE124.out)))); have n1_ := am (blk_below BK124.out hb); have n2_ := am (below_step (by repeat (first | exact HB.out | apply pb | apply pa | apply pd | refine below_set ?_ GE124.out)) hb); clear BK124; clear HB; have HO145 := n0_; have BK124 := n1_; have HB := n2_; clear n0_ n1_ n2_; clear hb ho62; obtain ⟨Ao63, co63, eo63⟩ := Kd.R_slice HO145.out; subst eo63) | (go_at_call 53; (with_reducible refine (insn_uses.calls kj44 a0_0 a0_1 a0_2 a0_3 a0_4 _ _ y143 true _ ?side1 ?side2 A58.out).mono ?_); (case side1 => repeat (first | exact (Kd.R_reads' HO145.out).2.2 | (with_reducible refine Kd.C_alloc ?_ _) | (with_reducible refine Kd.C_drewN ?_ _) | (with_reducible refine Kd.C_drew ?_))); (case side2 => exact (Kd.R_reads' HO145.out).2.1); rintro e w64 ⟨rfl, hb⟩; have n0_ := am (Kd.R_below (by (with_reducible repeat (first | apply Kd.R_alloc | apply Kd.R_drewN | apply Kd.R_drew)); exact HO145.out) hb); have n1_ := am (blk_below BK124.out hb); have n2_ := am (below_step (by repeat (first | exact HB.out | apply pb | apply pa | apply pd | refine below_set ?_ GE124.out)) hb); clear HO145; clear BK124; clear HB; have HO145 := n0_; have BK124 := n1_; have HB := n2_; clear n0_ n1_ n2_; (try clear hb); (try clear hb2); (try clear hk); (try clear hi)))
                   go_ret
                   exact ⟨by first | rfl | (simp [errW_none, errW_some] <;> rfl) | (simp [*, errW_none, errW_some] <;> rfl), by repeat (first | (with_reducible first | exact HB.out | apply below_alloc | apply pw_below_drewN | apply below_drew1 | refine below_set ?_ GE124.out) | exact HB.out)⟩
                  ·replace c59 := Bool.eq_false_iff.mpr c59
                   subst c59
                   have H1 : (some 0) = some r := by rw [if_neg (show ¬ (false = true) by decide)] at H; exact H
                   clear H
                   have H := H1
                   clear H1
                   obtain rfl := Option.some.inj H
                   have hcz65_0 : wc.cell? ⟨gb124, 0, none⟩ = some (.int .u8 a0_0) := (blk_cell BK124.out 0).trans rfl
                   have hcz65_1 : wc.cell? ⟨gb124, 1, none⟩ = some (.int .u8 a0_1) := (blk_cell BK124.out 1).trans rfl
                   have hcz65_2 : wc.cell? ⟨gb124, 2, none⟩ = some (.int .u8 a0_2) := (blk_cell BK124.out 2).trans rfl
                   have hcz65_3 : wc.cell? ⟨gb124, 3, none⟩ = some (.int .i16 a0_3) := (blk_cell BK124.out 3).trans rfl
                   have hcz65_4 : wc.cell? ⟨gb124, 4, none⟩ = some (.int .i32 a0_4) := (blk_cell BK124.out 4).trans rfl
                   have hfz65_0 := blk_frozen BK124.out 0
                   have hfz65_1 := blk_frozen BK124.out 1
                   have hfz65_2 := blk_frozen BK124.out 2
                   have hfz65_3 := blk_frozen BK124.out 3
                   have hfz65_4 := blk_frozen BK124.out 4
                   go_wp2_with (first | ((with_reducible refine gate_dst (N := 62) rfl ?_); (try (refine gate_guard (by rfl) ?_; dsimp only)); refine Kd.R_lit (Kd.int .i64) _ 3 ?hg (N := 62) ?hd (xs := ([2, 8] : List Int)) (inner := [.int .i64 2, .int .i64 8]) (ok := fun _ => True) (okp := fun _ => True) ?hr ?hp (fun _ hk => hk) trivial (Below.refl _ _) (Nat.le_refl _) (by simp) ?_; (case hd => rfl); (case hg => rfl); (case hr => first | (go_simp; done) | (go_simp; rfl)); (case hp => exact (Reps.one (show Kd.M (Kd.int .i64) _ _ _ 2 [.int .i64 2] from rfl) (Reps.one (show Kd.M (Kd.int .i64) _ _ _ 8 [.int .i64 8] from rfl) (Reps.none _ _)))); intro v144 w66 ho67 hb hg_ hnew_; clear hg_ hnew_; (first | rw [← Ny143.out] at ho67 | (simp only [Int.reduceToNat] at ho67; rw [← Ny143.out] at ho67)); have n0_ := am (Kd.R_lower ho67 (below_size (by repeat (first | exact HB.out | apply pb | apply pa | apply pd | refine below_set ?_ GE124.out)))); have n1_ := am (blk_below BK124.out hb); have n2_ := am (below_step (by repeat (first | exact HB.out | apply pb | apply pa | apply pd | refine below_set ?_ GE124.out)) hb); clear BK124; clear HB; have HO145 := n0_; have BK124 := n1_; have HB := n2_; clear n0_ n1_ n2_; clear hb ho67; obtain ⟨Ao68, co68, eo68⟩ := Kd.R_slice HO145.out; subst eo68) | (go_at_call 53; (with_reducible refine (insn_uses.calls kj44 a0_0 a0_1 a0_2 a0_3 a0_4 _ _ y143 false _ ?side1 ?side2 A58.out).mono ?_); (case side1 => repeat (first | exact (Kd.R_reads' HO145.out).2.2 | (with_reducible refine Kd.C_alloc ?_ _) | (with_reducible refine Kd.C_drewN ?_ _) | (with_reducible refine Kd.C_drew ?_))); (case side2 => exact (Kd.R_reads' HO145.out).2.1); rintro e w69 ⟨rfl, hb⟩; have n0_ := am (Kd.R_below (by (with_reducible repeat (first | apply Kd.R_alloc | apply Kd.R_drewN | apply Kd.R_drew)); exact HO145.out) hb); have n1_ := am (blk_below BK124.out hb); have n2_ := am (below_step (by repeat (first | exact HB.out | apply pb | apply pa | apply pd | refine below_set ?_ GE124.out)) hb); clear HO145; clear BK124; clear HB; have HO145 := n0_; have BK124 := n1_; have HB := n2_; clear n0_ n1_ n2_; (try clear hb); (try clear hb2); (try clear hk); (try clear hi)))
                   go_ret
                   exact ⟨by first | rfl | (simp [errW_none, errW_some] <;> rfl) | (simp [*, errW_none, errW_some] <;> rfl), by repeat (first | (with_reducible first | exact HB.out | apply below_alloc | apply pw_below_drewN | apply below_drew1 | refine below_set ?_ GE124.out) | exact HB.out)⟩
                 ·rw [if_neg c57] at H
                  have c57b0 : (a0_2 == 1) = false := beq_eq_false_iff_ne.mpr c57
                  have c57b1 : (a0_2 != 1) = true := bne_iff_ne.mpr c57
                  obtain rfl := Option.some.inj H
                  have hcz70_0 : wc.cell? ⟨gb124, 0, none⟩ = some (.int .u8 a0_0) := (blk_cell BK124.out 0).trans rfl
                  have hcz70_1 : wc.cell? ⟨gb124, 1, none⟩ = some (.int .u8 a0_1) := (blk_cell BK124.out 1).trans rfl
                  have hcz70_2 : wc.cell? ⟨gb124, 2, none⟩ = some (.int .u8 a0_2) := (blk_cell BK124.out 2).trans rfl
                  have hcz70_3 : wc.cell? ⟨gb124, 3, none⟩ = some (.int .i16 a0_3) := (blk_cell BK124.out 3).trans rfl
                  have hcz70_4 : wc.cell? ⟨gb124, 4, none⟩ = some (.int .i32 a0_4) := (blk_cell BK124.out 4).trans rfl
                  have hfz70_0 := blk_frozen BK124.out 0
                  have hfz70_1 := blk_frozen BK124.out 1
                  have hfz70_2 := blk_frozen BK124.out 2
                  have hfz70_3 := blk_frozen BK124.out 3
                  have hfz70_4 := blk_frozen BK124.out 4
                  go_wp2
                  go_ret
                  exact ⟨by first | rfl | (simp [errW_none, errW_some] <;> rfl) | (simp [*, errW_none, errW_some] <;> rfl), by repeat (first | (with_reducible first | exact HB.out | apply below_alloc | apply pw_below_drewN | apply below_drew1 | refine below_set ?_ GE124.out) | exact HB.out)⟩
                ·rw [if_neg c56] at H
                 have c56b0 : (t125 == 8) = false := beq_eq_false_iff_ne.mpr c56
                 have c56b1 : (t125 != 8) = true := bne_iff_ne.mpr c56
                 obtain rfl := Option.some.inj H
                 go_wp2
                 go_ret
                 exact ⟨by first | rfl | (simp [errW_none, errW_some] <;> rfl) | (simp [*, errW_none, errW_some] <;> rfl), by repeat (first | (with_reducible first | exact HB.out | apply below_alloc | apply pw_below_drewN | apply below_drew1 | refine below_set ?_ GE124.out) | exact HB.out)⟩

end Go.Proofs.Ytibghcmkmbamjaa.PI
