-- turned from the kit's print
import Derived.Test.YtibghcmkmbamjaaGPI
import Derived.Test.YtibghcmkmbamjaaPIx3
import Derived.Test.YtibghcmkmbamjaaPIx4
import Derived.Test.YtibghcmkmbamjaaPIx6
import Derived.Test.YtibghcmkmbamjaaPIx7
namespace Go.Proofs.Ytibghcmkmbamjaa.PI
open Go.RowKit Go.Proofs.YtibghcmkmbamjaaW.PrintWords Go.Proofs.YtibghcmkmbamjaaW.PrintLast Go.Proofs.YtibghcmkmbamjaaW.PrintMore
attribute [local go_sem] max2_int min2_int max_two min_two max_three min_three max_four min_four   -- for this text's walks alone
set_option linter.unusedVariables false
set_option linter.unusedSimpArgs false

/-! ### insn_Kind: function 19 -/
mutual
def insn_Kind.j0 : Nat → Int → Int → Int → Int → Int → Option (Int)
 | 0, _, _, _, _, _ => none
 | k + 1, x161000, x161001, x161002, x161003, x161004 => (insn_jump.f k x161000 x161001 x161002 x161003 x161004).bind fun t172 => (some t172)
def insn_Kind.j1 : Nat → Bool → Option (Int)
 | 0, _ => none
 | k + 1, x43 => if x43 = true then (some 2) else (some 0)
def insn_Kind.j2 : Nat → Bool → Option (Int)
 | 0, _ => none
 | k + 1, x55 => if x55 = true then (some 4) else (some 0)
end
def insn_Kind.f (k : Nat) (a0_0 : Int) (a0_1 : Int) (a0_2 : Int) (a0_3 : Int) (a0_4 : Int) : Option (Int) := (insn_class.f a0_0 a0_1 a0_2 a0_3 a0_4).bind fun t161 => (if t161 = 5 then (insn_Kind.j0 k a0_0 a0_1 a0_2 a0_3 a0_4) else (if t161 = 6 then (insn_Kind.j0 k a0_0 a0_1 a0_2 a0_3 a0_4) else (if t161 = 4 then (if a0_1 = 10 then (some 0) else ((insn_reckons.f k a0_0 a0_1 a0_2 a0_3 a0_4).bind fun t162 => (if t162 = true then (some 1) else (some 0)))) else (if t161 = 7 then (if a0_1 = 10 then (some 0) else ((insn_reckons.f k a0_0 a0_1 a0_2 a0_3 a0_4).bind fun t163 => (if t163 = true then (some 1) else (some 0)))) else (if t161 = 1 then (if (Go.bits .and .u8 a0_0 224) = 96 then (if a0_1 = 10 then (insn_Kind.j1 k false) else ((insn_uses.f k a0_0 a0_1 a0_2 a0_3 a0_4 (([1, 2, 4] : List Int))).bind fun t176 => (insn_Kind.j1 k t176))) else (insn_Kind.j1 k false)) else (if t161 = 2 then (if (Go.bits .and .u8 a0_0 224) = 96 then ((insn_uses.f k a0_0 a0_1 a0_2 a0_3 a0_4 (([1, 4, 8] : List Int))).bind fun t167 => (if t167 = true then (some 3) else (some 0))) else (some 0)) else (if t161 = 3 then (if (Go.bits .and .u8 a0_0 224) = 96 then ((insn_uses.f k a0_0 a0_1 a0_2 a0_3 a0_4 (([1, 2, 4] : List Int))).bind fun t180 => (insn_Kind.j2 k t180)) else (insn_Kind.j2 k false)) else (if a0_0 = 24 then (if a0_1 = 10 then (some 0) else (if a0_2 ≤ 2 then ((insn_uses.f k a0_0 a0_1 a0_2 a0_3 a0_4 (([1, 2, 8] : List Int))).bind fun t171 => (if t171 = true then (some 9) else (some 0))) else (some 0))) else (some 0)))))))))
theorem insn_Kind.mono_l : ∀ k, (∀ y0 y1 y2 y3 y4, LeO (insn_Kind.j0 k y0 y1 y2 y3 y4) (insn_Kind.j0 (k + 1) y0 y1 y2 y3 y4)) ∧ (∀ y0, LeO (insn_Kind.j1 k y0) (insn_Kind.j1 (k + 1) y0)) ∧ (∀ y0, LeO (insn_Kind.j2 k y0) (insn_Kind.j2 (k + 1) y0))
 | 0 => ⟨fun _ _ _ _ _ r h => by simp [insn_Kind.j0] at h, fun _ r h => by simp [insn_Kind.j1] at h, fun _ r h => by simp [insn_Kind.j2] at h⟩
 | k + 1 => by
  obtain ⟨ih0, ih1, ih2⟩ := insn_Kind.mono_l k
  refine ⟨?_, ?_, ?_⟩
  ·intro y0 y1 y2 y3 y4
   unfold insn_Kind.j0
   repeat' first
   | (with_reducible exact ih0 _ _ _ _ _)
   | (with_reducible exact ih1 _)
   | (with_reducible exact ih2 _)
   | (with_reducible exact insn_jump.mono _ _ _ _ _ _)
   | (with_reducible exact insn_reckons.mono _ _ _ _ _ _)
   | (with_reducible exact insn_uses.mono _ _ _ _ _ _ _)
   | (with_reducible exact LeO.refl _)
   | (with_reducible exact LeO.none _)
   | (with_reducible refine LeO.ite ?_ ?_)
   | (with_reducible refine LeO.bind ?_ (fun _ => ?_))
   | exact ih0 _ _ _ _ _
   | exact ih1 _
   | exact ih2 _
   | exact insn_jump.mono _ _ _ _ _ _
   | exact insn_reckons.mono _ _ _ _ _ _
   | exact insn_uses.mono _ _ _ _ _ _ _
   | exact LeO.none _
   | refine LeO.ite ?_ ?_
   | refine LeO.bind ?_ (fun _ => ?_)
  ·intro y0
   unfold insn_Kind.j1
   repeat' first
   | (with_reducible exact ih0 _ _ _ _ _)
   | (with_reducible exact ih1 _)
   | (with_reducible exact ih2 _)
   | (with_reducible exact insn_jump.mono _ _ _ _ _ _)
   | (with_reducible exact insn_reckons.mono _ _ _ _ _ _)
   | (with_reducible exact insn_uses.mono _ _ _ _ _ _ _)
   | (with_reducible exact LeO.refl _)
   | (with_reducible exact LeO.none _)
   | (with_reducible refine LeO.ite ?_ ?_)
   | (with_reducible refine LeO.bind ?_ (fun _ => ?_))
   | exact ih0 _ _ _ _ _
   | exact ih1 _
   | exact ih2 _
   | exact insn_jump.mono _ _ _ _ _ _
   | exact insn_reckons.mono _ _ _ _ _ _
   | exact insn_uses.mono _ _ _ _ _ _ _
   | exact LeO.none _
   | refine LeO.ite ?_ ?_
   | refine LeO.bind ?_ (fun _ => ?_)
  ·intro y0
   unfold insn_Kind.j2
   repeat' first
   | (with_reducible exact ih0 _ _ _ _ _)
   | (with_reducible exact ih1 _)
   | (with_reducible exact ih2 _)
   | (with_reducible exact insn_jump.mono _ _ _ _ _ _)
   | (with_reducible exact insn_reckons.mono _ _ _ _ _ _)
   | (with_reducible exact insn_uses.mono _ _ _ _ _ _ _)
   | (with_reducible exact LeO.refl _)
   | (with_reducible exact LeO.none _)
   | (with_reducible refine LeO.ite ?_ ?_)
   | (with_reducible refine LeO.bind ?_ (fun _ => ?_))
   | exact ih0 _ _ _ _ _
   | exact ih1 _
   | exact ih2 _
   | exact insn_jump.mono _ _ _ _ _ _
   | exact insn_reckons.mono _ _ _ _ _ _
   | exact insn_uses.mono _ _ _ _ _ _ _
   | exact LeO.none _
   | refine LeO.ite ?_ ?_
   | refine LeO.bind ?_ (fun _ => ?_)
theorem insn_Kind.mono : ∀ a0 a1 a2 a3 a4 k, LeO (insn_Kind.f k a0 a1 a2 a3 a4) (insn_Kind.f (k + 1) a0 a1 a2 a3 a4) := by
 intro a0 a1 a2 a3 a4 k
 obtain ⟨ih0, ih1, ih2⟩ := insn_Kind.mono_l k
 unfold insn_Kind.f
 repeat' first
   | (with_reducible exact ih0 _ _ _ _ _)
   | (with_reducible exact ih1 _)
   | (with_reducible exact ih2 _)
   | (with_reducible exact insn_jump.mono _ _ _ _ _ _)
   | (with_reducible exact insn_reckons.mono _ _ _ _ _ _)
   | (with_reducible exact insn_uses.mono _ _ _ _ _ _ _)
   | (with_reducible exact LeO.refl _)
   | (with_reducible exact LeO.none _)
   | (with_reducible refine LeO.ite ?_ ?_)
   | (with_reducible refine LeO.bind ?_ (fun _ => ?_))
   | exact ih0 _ _ _ _ _
   | exact ih1 _
   | exact ih2 _
   | exact insn_jump.mono _ _ _ _ _ _
   | exact insn_reckons.mono _ _ _ _ _ _
   | exact insn_uses.mono _ _ _ _ _ _ _
   | exact LeO.none _
   | refine LeO.ite ?_ ?_
   | refine LeO.bind ?_ (fun _ => ?_)
set_option maxHeartbeats 8000000 in
set_option maxRecDepth 100000 in
theorem insn_Kind.calls (k : Nat) (a0_0 : Int) (a0_1 : Int) (a0_2 : Int) (a0_3 : Int) (a0_4 : Int) (r : Int) (w : World) (h : insn_Kind.f k a0_0 a0_1 a0_2 a0_3 a0_4 = some r) :
  Calls Try.prog 19 #[.agg #[.int .u8 a0_0, .int .u8 a0_1, .int .u8 a0_2, .int .i16 a0_3, .int .i32 a0_4]] w fun e w' => e = .returned (.int .u8 r) ∧ Below w.heap.size w w' := by
 have hu24 := Try.underlying24
 have HB := am (Below.refl w.heap.size w)
 have H : ((insn_class.f a0_0 a0_1 a0_2 a0_3 a0_4).bind fun t161 => (if t161 = 5 then (insn_Kind.j0 k a0_0 a0_1 a0_2 a0_3 a0_4) else (if t161 = 6 then (insn_Kind.j0 k a0_0 a0_1 a0_2 a0_3 a0_4) else (if t161 = 4 then (if a0_1 = 10 then (some 0) else ((insn_reckons.f k a0_0 a0_1 a0_2 a0_3 a0_4).bind fun t162 => (if t162 = true then (some 1) else (some 0)))) else (if t161 = 7 then (if a0_1 = 10 then (some 0) else ((insn_reckons.f k a0_0 a0_1 a0_2 a0_3 a0_4).bind fun t163 => (if t163 = true then (some 1) else (some 0)))) else (if t161 = 1 then (if (Go.bits .and .u8 a0_0 224) = 96 then (if a0_1 = 10 then (insn_Kind.j1 k false) else ((insn_uses.f k a0_0 a0_1 a0_2 a0_3 a0_4 (([1, 2, 4] : List Int))).bind fun t176 => (insn_Kind.j1 k t176))) else (insn_Kind.j1 k false)) else (if t161 = 2 then (if (Go.bits .and .u8 a0_0 224) = 96 then ((insn_uses.f k a0_0 a0_1 a0_2 a0_3 a0_4 (([1, 4, 8] : List Int))).bind fun t167 => (if t167 = true then (some 3) else (some 0))) else (some 0)) else (if t161 = 3 then (if (Go.bits .and .u8 a0_0 224) = 96 then ((insn_uses.f k a0_0 a0_1 a0_2 a0_3 a0_4 (([1, 2, 4] : List Int))).bind fun t180 => (insn_Kind.j2 k t180)) else (insn_Kind.j2 k false)) else (if a0_0 = 24 then (if a0_1 = 10 then (some 0) else (if a0_2 ≤ 2 then ((insn_uses.f k a0_0 a0_1 a0_2 a0_3 a0_4 (([1, 2, 8] : List Int))).bind fun t171 => (if t171 = true then (some 9) else (some 0))) else (some 0))) else (some 0)))))))))) = some r := h
 clear h
 replace H := Option.bind_eq_some_iff.mp H
 obtain ⟨t161, A20, H⟩ := H
 try dsimp only at H
 have A2 := am A20
 clear A20
 have HC3 := am H
 clear H
 go_enter Try.func19, Try.ntmps19
 go_upto_block 2 with (first | ((with_reducible refine gate_dst (N := 1) rfl ?_); (try (refine gate_guard (by rfl) ?_; dsimp only)); refine box_event ?hg (N := 1) ?hd (cs := #[.int .u8 a0_0, .int .u8 a0_1, .int .u8 a0_2, .int .i16 a0_3, .int .i32 a0_4]) (t := 24) ?hr ?_; (case hd => rfl); (case hg => rfl); (case hr => first | (go_simp; done) | (go_simp; rfl)); intro gb160 hg w4 hbox hb; have n0_ := am (below_step (by repeat (first | exact HB.out | apply pb | apply pa | apply pd)) hb); have n1_ := am (hbox); have n2_ := am ((by rw [hg]; exact (below_size (by repeat (first | exact HB.out | apply pb | apply pa | apply pd))) : w.heap.size ≤ gb160)); have n3_ := am ((by rw [hg]; exact (below_size (by repeat (first | exact HB.out | apply pb | apply pa | apply pd))) : w.heap.size ≤ gb160)); clear HB; have HB := n0_; have BK160 := n1_; have GW160 := n2_; have GE160 := n3_; clear n0_ n1_ n2_ n3_; clear hb hbox hg; have hcz5_0 : w4.cell? ⟨gb160, 0, none⟩ = some (.int .u8 a0_0) := (blk_cell BK160.out 0).trans rfl; have hcz5_1 : w4.cell? ⟨gb160, 1, none⟩ = some (.int .u8 a0_1) := (blk_cell BK160.out 1).trans rfl; have hcz5_2 : w4.cell? ⟨gb160, 2, none⟩ = some (.int .u8 a0_2) := (blk_cell BK160.out 2).trans rfl; have hcz5_3 : w4.cell? ⟨gb160, 3, none⟩ = some (.int .i16 a0_3) := (blk_cell BK160.out 3).trans rfl; have hcz5_4 : w4.cell? ⟨gb160, 4, none⟩ = some (.int .i32 a0_4) := (blk_cell BK160.out 4).trans rfl; have hfz5_0 := blk_frozen BK160.out 0; have hfz5_1 := blk_frozen BK160.out 1; have hfz5_2 := blk_frozen BK160.out 2; have hfz5_3 := blk_frozen BK160.out 3; have hfz5_4 := blk_frozen BK160.out 4) | (go_at_call 50; (with_reducible refine (insn_class.calls a0_0 a0_1 a0_2 a0_3 a0_4 t161 _ A2.out).mono ?_); rintro e w6 ⟨rfl, hb⟩; have n0_ := am (blk_below (g := gb160) (o := .cells #[.int .u8 a0_0, .int .u8 a0_1, .int .u8 a0_2, .int .i16 a0_3, .int .i32 a0_4] 24 (0, 0)) (by first | exact BK160.out | exact blk_drewN BK160.out _) hb); have n1_ := am (below_step (by repeat (first | exact HB.out | apply pb | apply pa | apply pd | refine below_set ?_ GE160.out)) hb); clear BK160; clear HB; have BK160 := n0_; have HB := n1_; clear n0_ n1_; (try clear hb); (try clear hb2); (try clear hk); (try clear hi)))
 repeat (go_quiet (first | ((with_reducible refine gate_dst (N := 1) rfl ?_); (try (refine gate_guard (by rfl) ?_; dsimp only)); refine box_event ?hg (N := 1) ?hd (cs := #[.int .u8 a0_0, .int .u8 a0_1, .int .u8 a0_2, .int .i16 a0_3, .int .i32 a0_4]) (t := 24) ?hr ?_; (case hd => rfl); (case hg => rfl); (case hr => first | (go_simp; done) | (go_simp; rfl)); intro gb160 hg w4 hbox hb; have n0_ := am (below_step (by repeat (first | exact HB.out | apply pb | apply pa | apply pd)) hb); have n1_ := am (hbox); have n2_ := am ((by rw [hg]; exact (below_size (by repeat (first | exact HB.out | apply pb | apply pa | apply pd))) : w.heap.size ≤ gb160)); have n3_ := am ((by rw [hg]; exact (below_size (by repeat (first | exact HB.out | apply pb | apply pa | apply pd))) : w.heap.size ≤ gb160)); clear HB; have HB := n0_; have BK160 := n1_; have GW160 := n2_; have GE160 := n3_; clear n0_ n1_ n2_ n3_; clear hb hbox hg; have hcz5_0 : w4.cell? ⟨gb160, 0, none⟩ = some (.int .u8 a0_0) := (blk_cell BK160.out 0).trans rfl; have hcz5_1 : w4.cell? ⟨gb160, 1, none⟩ = some (.int .u8 a0_1) := (blk_cell BK160.out 1).trans rfl; have hcz5_2 : w4.cell? ⟨gb160, 2, none⟩ = some (.int .u8 a0_2) := (blk_cell BK160.out 2).trans rfl; have hcz5_3 : w4.cell? ⟨gb160, 3, none⟩ = some (.int .i16 a0_3) := (blk_cell BK160.out 3).trans rfl; have hcz5_4 : w4.cell? ⟨gb160, 4, none⟩ = some (.int .i32 a0_4) := (blk_cell BK160.out 4).trans rfl; have hfz5_0 := blk_frozen BK160.out 0; have hfz5_1 := blk_frozen BK160.out 1; have hfz5_2 := blk_frozen BK160.out 2; have hfz5_3 := blk_frozen BK160.out 3; have hfz5_4 := blk_frozen BK160.out 4) | (go_at_call 50; (with_reducible refine (insn_class.calls a0_0 a0_1 a0_2 a0_3 a0_4 t161 _ A2.out).mono ?_); rintro e w6 ⟨rfl, hb⟩; have n0_ := am (blk_below (g := gb160) (o := .cells #[.int .u8 a0_0, .int .u8 a0_1, .int .u8 a0_2, .int .i16 a0_3, .int .i32 a0_4] 24 (0, 0)) (by first | exact BK160.out | exact blk_drewN BK160.out _) hb); have n1_ := am (below_step (by repeat (first | exact HB.out | apply pb | apply pa | apply pd | refine below_set ?_ GE160.out)) hb); clear BK160; clear HB; have BK160 := n0_; have HB := n1_; clear n0_ n1_; (try clear hb); (try clear hb2); (try clear hk); (try clear hi))); go_upto_block 2 with (first | ((with_reducible refine gate_dst (N := 1) rfl ?_); (try (refine gate_guard (by rfl) ?_; dsimp only)); refine box_event ?hg (N := 1) ?hd (cs := #[.int .u8 a0_0, .int .u8 a0_1, .int .u8 a0_2, .int .i16 a0_3, .int .i32 a0_4]) (t := 24) ?hr ?_; (case hd => rfl); (case hg => rfl); (case hr => first | (go_simp; done) | (go_simp; rfl)); intro gb160 hg w4 hbox hb; have n0_ := am (below_step (by repeat (first | exact HB.out | apply pb | apply pa | apply pd)) hb); have n1_ := am (hbox); have n2_ := am ((by rw [hg]; exact (below_size (by repeat (first | exact HB.out | apply pb | apply pa | apply pd))) : w.heap.size ≤ gb160)); have n3_ := am ((by rw [hg]; exact (below_size (by repeat (first | exact HB.out | apply pb | apply pa | apply pd))) : w.heap.size ≤ gb160)); clear HB; have HB := n0_; have BK160 := n1_; have GW160 := n2_; have GE160 := n3_; clear n0_ n1_ n2_ n3_; clear hb hbox hg; have hcz5_0 : w4.cell? ⟨gb160, 0, none⟩ = some (.int .u8 a0_0) := (blk_cell BK160.out 0).trans rfl; have hcz5_1 : w4.cell? ⟨gb160, 1, none⟩ = some (.int .u8 a0_1) := (blk_cell BK160.out 1).trans rfl; have hcz5_2 : w4.cell? ⟨gb160, 2, none⟩ = some (.int .u8 a0_2) := (blk_cell BK160.out 2).trans rfl; have hcz5_3 : w4.cell? ⟨gb160, 3, none⟩ = some (.int .i16 a0_3) := (blk_cell BK160.out 3).trans rfl; have hcz5_4 : w4.cell? ⟨gb160, 4, none⟩ = some (.int .i32 a0_4) := (blk_cell BK160.out 4).trans rfl; have hfz5_0 := blk_frozen BK160.out 0; have hfz5_1 := blk_frozen BK160.out 1; have hfz5_2 := blk_frozen BK160.out 2; have hfz5_3 := blk_frozen BK160.out 3; have hfz5_4 := blk_frozen BK160.out 4) | (go_at_call 50; (with_reducible refine (insn_class.calls a0_0 a0_1 a0_2 a0_3 a0_4 t161 _ A2.out).mono ?_); rintro e w6 ⟨rfl, hb⟩; have n0_ := am (blk_below (g := gb160) (o := .cells #[.int .u8 a0_0, .int .u8 a0_1, .int .u8 a0_2, .int .i16 a0_3, .int .i32 a0_4] 24 (0, 0)) (by first | exact BK160.out | exact blk_drewN BK160.out _) hb); have n1_ := am (below_step (by repeat (first | exact HB.out | apply pb | apply pa | apply pd | refine below_set ?_ GE160.out)) hb); clear BK160; clear HB; have BK160 := n0_; have HB := n1_; clear n0_ n1_; (try clear hb); (try clear hb2); (try clear hk); (try clear hi))))
 (try simp only [Act.put, List.setIfInBounds_toArray, List.set_cons_zero, List.set_cons_succ])
 go_cut [] (fun wc => ∃ (kq : Nat), Aside0 (insn_Kind.j0 kq a0_0 a0_1 a0_2 a0_3 a0_4 = some r) ∧ Aside0 (kq ≤ k) ∧ Aside0 (wc.heap[gb160]? = some (.cells #[.int .u8 a0_0, .int .u8 a0_1, .int .u8 a0_2, .int .i16 a0_3, .int .i32 a0_4] 24 (0, 0))) ∧ Aside0 (Below w.heap.size w wc))
 case first =>
  have H := HC3.out
  clear HC3
  by_cases c7 : t161 = 5
  ·rw [if_pos c7] at H
   have c7b0 : (t161 == 5) = true := beq_iff_eq.mpr c7
   have c7b1 : (t161 != 5) = false := bne_eq_false_iff_eq.mpr c7
   clear c7
   (first | rw [c7b0] | (simp only [i64_w, i32_w]; rw [c7b0]) | skip)
   have H' := am H
   clear H
   go_wp2
   repeat (go_quiet (fail); try go_wp2)
   go_meet
   case rel => exact ⟨_, H', ⟨by first | omega | exact Nat.le_refl _⟩, ⟨by (with_reducible repeat (first | refine blk_drewN ?_ _ | refine blk_drew ?_ | refine blk_alloc ?_ _)); exact BK160.out⟩, ⟨by repeat (first | (with_reducible first | exact HB.out | apply below_alloc | apply pw_below_drewN | apply below_drew1 | refine below_set ?_ GE160.out) | exact HB.out)⟩⟩
  ·rw [if_neg c7] at H
   have c7b0 : (t161 == 5) = false := beq_eq_false_iff_ne.mpr c7
   have c7b1 : (t161 != 5) = true := bne_iff_ne.mpr c7
   (first | rw [c7b0] | (simp only [i64_w, i32_w]; rw [c7b0]) | skip)
   by_cases c8 : t161 = 6
   ·rw [if_pos c8] at H
    have c8b0 : (t161 == 6) = true := beq_iff_eq.mpr c8
    have c8b1 : (t161 != 6) = false := bne_eq_false_iff_eq.mpr c8
    clear c8
    have H' := am H
    clear H
    go_wp2
    repeat (go_quiet (fail); try go_wp2)
    go_meet
    case rel => exact ⟨_, H', ⟨by first | omega | exact Nat.le_refl _⟩, ⟨by (with_reducible repeat (first | refine blk_drewN ?_ _ | refine blk_drew ?_ | refine blk_alloc ?_ _)); exact BK160.out⟩, ⟨by repeat (first | (with_reducible first | exact HB.out | apply below_alloc | apply pw_below_drewN | apply below_drew1 | refine below_set ?_ GE160.out) | exact HB.out)⟩⟩
   ·rw [if_neg c8] at H
    have c8b0 : (t161 == 6) = false := beq_eq_false_iff_ne.mpr c8
    have c8b1 : (t161 != 6) = true := bne_iff_ne.mpr c8
    by_cases c9 : t161 = 4
    ·rw [if_pos c9] at H
     have c9b0 : (t161 == 4) = true := beq_iff_eq.mpr c9
     have c9b1 : (t161 != 4) = false := bne_eq_false_iff_eq.mpr c9
     clear c9
     by_cases c10 : a0_1 = 10
     ·rw [if_pos c10] at H
      have c10b0 : (a0_1 == 10) = true := beq_iff_eq.mpr c10
      have c10b1 : (a0_1 != 10) = false := bne_eq_false_iff_eq.mpr c10
      clear c10
      obtain rfl := Option.some.inj H
      go_wp2
      repeat (go_quiet (fail); try go_wp2)
      go_ret
      exact ⟨by first | rfl | (simp [errW_none, errW_some] <;> rfl) | (simp [*, errW_none, errW_some] <;> rfl), by repeat (first | (with_reducible first | exact HB.out | apply below_alloc | apply pw_below_drewN | apply below_drew1 | refine below_set ?_ GE160.out) | exact HB.out)⟩
     ·rw [if_neg c10] at H
      have c10b0 : (a0_1 == 10) = false := beq_eq_false_iff_ne.mpr c10
      have c10b1 : (a0_1 != 10) = true := bne_iff_ne.mpr c10
      replace H := Option.bind_eq_some_iff.mp H
      obtain ⟨t162, A110, H⟩ := H
      try dsimp only at H
      have A11 := am A110
      clear A110
      by_cases c12 : t162 = true
      ·subst c12
       have H1 : (some 1) = some r := by rw [if_pos rfl] at H; exact H
       clear H
       have H := H1
       clear H1
       obtain rfl := Option.some.inj H
       have hcz13_0 : w6.cell? ⟨gb160, 0, none⟩ = some (.int .u8 a0_0) := (blk_cell BK160.out 0).trans rfl
       have hcz13_1 : w6.cell? ⟨gb160, 1, none⟩ = some (.int .u8 a0_1) := (blk_cell BK160.out 1).trans rfl
       have hcz13_2 : w6.cell? ⟨gb160, 2, none⟩ = some (.int .u8 a0_2) := (blk_cell BK160.out 2).trans rfl
       have hcz13_3 : w6.cell? ⟨gb160, 3, none⟩ = some (.int .i16 a0_3) := (blk_cell BK160.out 3).trans rfl
       have hcz13_4 : w6.cell? ⟨gb160, 4, none⟩ = some (.int .i32 a0_4) := (blk_cell BK160.out 4).trans rfl
       have hfz13_0 := blk_frozen BK160.out 0
       have hfz13_1 := blk_frozen BK160.out 1
       have hfz13_2 := blk_frozen BK160.out 2
       have hfz13_3 := blk_frozen BK160.out 3
       have hfz13_4 := blk_frozen BK160.out 4
       go_wp2_with (first | (go_at_call 52; (with_reducible refine (insn_reckons.calls k a0_0 a0_1 a0_2 a0_3 a0_4 true _ A11.out).mono ?_); rintro e w14 ⟨rfl, hb⟩; have n0_ := am (blk_below (g := gb160) (o := .cells #[.int .u8 a0_0, .int .u8 a0_1, .int .u8 a0_2, .int .i16 a0_3, .int .i32 a0_4] 24 (0, 0)) (by first | exact BK160.out | exact blk_drewN BK160.out _) hb); have n1_ := am (below_step (by repeat (first | exact HB.out | apply pb | apply pa | apply pd | refine below_set ?_ GE160.out)) hb); clear BK160; clear HB; have BK160 := n0_; have HB := n1_; clear n0_ n1_; (try clear hb); (try clear hb2); (try clear hk); (try clear hi)))
       repeat (go_quiet (first | (go_at_call 52; (with_reducible refine (insn_reckons.calls k a0_0 a0_1 a0_2 a0_3 a0_4 true _ A11.out).mono ?_); rintro e w14 ⟨rfl, hb⟩; have n0_ := am (blk_below (g := gb160) (o := .cells #[.int .u8 a0_0, .int .u8 a0_1, .int .u8 a0_2, .int .i16 a0_3, .int .i32 a0_4] 24 (0, 0)) (by first | exact BK160.out | exact blk_drewN BK160.out _) hb); have n1_ := am (below_step (by repeat (first | exact HB.out | apply pb | apply pa | apply pd | refine below_set ?_ GE160.out)) hb); clear BK160; clear HB; have BK160 := n0_; have HB := n1_; clear n0_ n1_; (try clear hb); (try clear hb2); (try clear hk); (try clear hi))); try go_wp2_with (first | (go_at_call 52; (with_reducible refine (insn_reckons.calls k a0_0 a0_1 a0_2 a0_3 a0_4 true _ A11.out).mono ?_); rintro e w14 ⟨rfl, hb⟩; have n0_ := am (blk_below (g := gb160) (o := .cells #[.int .u8 a0_0, .int .u8 a0_1, .int .u8 a0_2, .int .i16 a0_3, .int .i32 a0_4] 24 (0, 0)) (by first | exact BK160.out | exact blk_drewN BK160.out _) hb); have n1_ := am (below_step (by repeat (first | exact HB.out | apply pb | apply pa | apply pd | refine below_set ?_ GE160.out)) hb); clear BK160; clear HB; have BK160 := n0_; have HB := n1_; clear n0_ n1_; (try clear hb); (try clear hb2); (try clear hk); (try clear hi))))
       go_ret
       exact ⟨by first | rfl | (simp [errW_none, errW_some] <;> rfl) | (simp [*, errW_none, errW_some] <;> rfl), by repeat (first | (with_reducible first | exact HB.out | apply below_alloc | apply pw_below_drewN | apply below_drew1 | refine below_set ?_ GE160.out) | exact HB.out)⟩
      ·replace c12 := Bool.eq_false_iff.mpr c12
       subst c12
       have H1 : (some 0) = some r := by rw [if_neg (show ¬ (false = true) by decide)] at H; exact H
       clear H
       have H := H1
       clear H1
       obtain rfl := Option.some.inj H
       have hcz15_0 : w6.cell? ⟨gb160, 0, none⟩ = some (.int .u8 a0_0) := (blk_cell BK160.out 0).trans rfl
       have hcz15_1 : w6.cell? ⟨gb160, 1, none⟩ = some (.int .u8 a0_1) := (blk_cell BK160.out 1).trans rfl
       have hcz15_2 : w6.cell? ⟨gb160, 2, none⟩ = some (.int .u8 a0_2) := (blk_cell BK160.out 2).trans rfl
       have hcz15_3 : w6.cell? ⟨gb160, 3, none⟩ = some (.int .i16 a0_3) := (blk_cell BK160.out 3).trans rfl
       have hcz15_4 : w6.cell? ⟨gb160, 4, none⟩ = some (.int .i32 a0_4) := (blk_cell BK160.out 4).trans rfl
       have hfz15_0 := blk_frozen BK160.out 0
       have hfz15_1 := blk_frozen BK160.out 1
       have hfz15_2 := blk_frozen BK160.out 2
       have hfz15_3 := blk_frozen BK160.out 3
       have hfz15_4 := blk_frozen BK160.out 4
       go_wp2_with (first | (go_at_call 52; (with_reducible refine (insn_reckons.calls k a0_0 a0_1 a0_2 a0_3 a0_4 false _ A11.out).mono ?_); rintro e w16 ⟨rfl, hb⟩; have n0_ := am (blk_below (g := gb160) (o := .cells #[.int .u8 a0_0, .int .u8 a0_1, .int .u8 a0_2, .int .i16 a0_3, .int .i32 a0_4] 24 (0, 0)) (by first | exact BK160.out | exact blk_drewN BK160.out _) hb); have n1_ := am (below_step (by repeat (first | exact HB.out | apply pb | apply pa | apply pd | refine below_set ?_ GE160.out)) hb); clear BK160; clear HB; have BK160 := n0_; have HB := n1_; clear n0_ n1_; (try clear hb); (try clear hb2); (try clear hk); (try clear hi)))
       repeat (go_quiet (first | (go_at_call 52; (with_reducible refine (insn_reckons.calls k a0_0 a0_1 a0_2 a0_3 a0_4 false _ A11.out).mono ?_); rintro e w16 ⟨rfl, hb⟩; have n0_ := am (blk_below (g := gb160) (o := .cells #[.int .u8 a0_0, .int .u8 a0_1, .int .u8 a0_2, .int .i16 a0_3, .int .i32 a0_4] 24 (0, 0)) (by first | exact BK160.out | exact blk_drewN BK160.out _) hb); have n1_ := am (below_step (by repeat (first | exact HB.out | apply pb | apply pa | apply pd | refine below_set ?_ GE160.out)) hb); clear BK160; clear HB; have BK160 := n0_; have HB := n1_; clear n0_ n1_; (try clear hb); (try clear hb2); (try clear hk); (try clear hi))); try go_wp2_with (first | (go_at_call 52; (with_reducible refine (insn_reckons.calls k a0_0 a0_1 a0_2 a0_3 a0_4 false _ A11.out).mono ?_); rintro e w16 ⟨rfl, hb⟩; have n0_ := am (blk_below (g := gb160) (o := .cells #[.int .u8 a0_0, .int .u8 a0_1, .int .u8 a0_2, .int .i16 a0_3, .int .i32 a0_4] 24 (0, 0)) (by first | exact BK160.out | exact blk_drewN BK160.out _) hb); have n1_ := am (below_step (by repeat (first | exact HB.out | apply pb | apply pa | apply pd | refine below_set ?_ GE160.out)) hb); clear BK160; clear HB; have BK160 := n0_; have HB := n1_; clear n0_ n1_; (try clear hb); (try clear hb2); (try clear hk); (try clear hi))))
       go_ret
       exact ⟨by first | rfl | (simp [errW_none, errW_some] <;> rfl) | (simp [*, errW_none, errW_some] <;> rfl), by repeat (first | (with_reducible first | exact HB.out | apply below_alloc | apply pw_below_drewN | apply below_drew1 | refine below_set ?_ GE160.out) | exact HB.out)⟩
    ·rw [if_neg c9] at H
     have c9b0 : (t161 == 4) = false := beq_eq_false_iff_ne.mpr c9
     have c9b1 : (t161 != 4) = true := bne_iff_ne.mpr c9
     by_cases c17 : t161 = 7
     ·rw [if_pos c17] at H
      have c17b0 : (t161 == 7) = true := beq_iff_eq.mpr c17
      have c17b1 : (t161 != 7) = false := bne_eq_false_iff_eq.mpr c17
      clear c17
      by_cases c18 : a0_1 = 10
      ·rw [if_pos c18] at H
       have c18b0 : (a0_1 == 10) = true := beq_iff_eq.mpr c18
       have c18b1 : (a0_1 != 10) = false := bne_eq_false_iff_eq.mpr c18
       clear c18
       obtain rfl := Option.some.inj H
       go_wp2
       repeat (go_quiet (fail); try go_wp2)
       go_ret
       exact ⟨by first | rfl | (simp [errW_none, errW_some] <;> rfl) | (simp [*, errW_none, errW_some] <;> rfl), by repeat (first | (with_reducible first | exact HB.out | apply below_alloc | apply pw_below_drewN | apply below_drew1 | refine below_set ?_ GE160.out) | exact HB.out)⟩
      ·rw [if_neg c18] at H
       have c18b0 : (a0_1 == 10) = false := beq_eq_false_iff_ne.mpr c18
       have c18b1 : (a0_1 != 10) = true := bne_iff_ne.mpr c18
       replace H := Option.bind_eq_some_iff.mp H
       obtain ⟨t163, A190, H⟩ := H
       try dsimp only at H
       have A19 := am A190
       clear A190
       by_cases c20 : t163 = true
       ·subst c20
        have H1 : (some 1) = some r := by rw [if_pos rfl] at H; exact H
        clear H
        have H := H1
        clear H1
        obtain rfl := Option.some.inj H
        have hcz21_0 : w6.cell? ⟨gb160, 0, none⟩ = some (.int .u8 a0_0) := (blk_cell BK160.out 0).trans rfl
        have hcz21_1 : w6.cell? ⟨gb160, 1, none⟩ = some (.int .u8 a0_1) := (blk_cell BK160.out 1).trans rfl
        have hcz21_2 : w6.cell? ⟨gb160, 2, none⟩ = some (.int .u8 a0_2) := (blk_cell BK160.out 2).trans rfl
        have hcz21_3 : w6.cell? ⟨gb160, 3, none⟩ = some (.int .i16 a0_3) := (blk_cell BK160.out 3).trans rfl
        have hcz21_4 : w6.cell? ⟨gb160, 4, none⟩ = some (.int .i32 a0_4) := (blk_cell BK160.out 4).trans rfl
        have hfz21_0 := blk_frozen BK160.out 0
        have hfz21_1 := blk_frozen BK160.out 1
        have hfz21_2 := blk_frozen BK160.out 2
        have hfz21_3 := blk_frozen BK160.out 3
        have hfz21_4 := blk_frozen BK160.out 4
        go_wp2_with (first | (go_at_call 52; (with_reducible refine (insn_reckons.calls k a0_0 a0_1 a0_2 a0_3 a0_4 true _ A19.out).mono ?_); rintro e w22 ⟨rfl, hb⟩; have n0_ := am (blk_below (g := gb160) (o := .cells #[.int .u8 a0_0, .int .u8 a0_1, .int .u8 a0_2, .int .i16 a0_3, .int .i32 a0_4] 24 (0, 0)) (by first | exact BK160.out | exact blk_drewN BK160.out _) hb); have n1_ := am (below_step (by repeat (first | exact HB.out | apply pb | apply pa | apply pd | refine below_set ?_ GE160.out)) hb); clear BK160; clear HB; have BK160 := n0_; have HB := n1_; clear n0_ n1_; (try clear hb); (try clear hb2); (try clear hk); (try clear hi)))
        repeat (go_quiet (first | (go_at_call 52; (with_reducible refine (insn_reckons.calls k a0_0 a0_1 a0_2 a0_3 a0_4 true _ A19.out).mono ?_); rintro e w22 ⟨rfl, hb⟩; have n0_ := am (blk_below (g := gb160) (o := .cells #[.int .u8 a0_0, .int .u8 a0_1, .int .u8 a0_2, .int .i16 a0_3, .int .i32 a0_4] 24 (0, 0)) (by first | exact BK160.out | exact blk_drewN BK160.out _) hb); have n1_ := am (below_step (by repeat (first | exact HB.out | apply pb | apply pa | apply pd | refine below_set ?_ GE160.out)) hb); clear BK160; clear HB; have BK160 := n0_; have HB := n1_; clear n0_ n1_; (try clear hb); (try clear hb2); (try clear hk); (try clear hi))); try go_wp2_with (first | (go_at_call 52; (with_reducible refine (insn_reckons.calls k a0_0 a0_1 a0_2 a0_3 a0_4 true _ A19.out).mono ?_); rintro e w22 ⟨rfl, hb⟩; have n0_ := am (blk_below (g := gb160) (o := .cells #[.int .u8 a0_0, .int .u8 a0_1, .int .u8 a0_2, .int .i16 a0_3, .int .i32 a0_4] 24 (0, 0)) (by first | exact BK160.out | exact blk_drewN BK160.out _) hb); have n1_ := am (below_step (by repeat (first | exact HB.out | apply pb | apply pa | apply pd | refine below_set ?_ GE160.out)) hb); clear BK160; clear HB; have BK160 := n0_; have HB := n1_; clear n0_ n1_; (try clear hb); (try clear hb2); (try clear hk); (try clear hi))))
        go_ret
        exact ⟨by first | rfl | (simp [errW_none, errW_some] <;> rfl) | (simp [*, errW_none, errW_some] <;> rfl), by repeat (first | (with_reducible first | exact HB.out | apply below_alloc | apply pw_below_drewN | apply below_drew1 | refine below_set ?_ GE160.out) | exact HB.out)⟩
       ·replace c20 := Bool.eq_false_iff.mpr c20
        subst c20
        have H1 : (some 0) = some r := by rw [if_neg (show ¬ (false = true) by decide)] at H; exact H
        clear H
        have H := H1
        clear H1
        obtain rfl := Option.some.inj H
        have hcz23_0 : w6.cell? ⟨gb160, 0, none⟩ = some (.int .u8 a0_0) := (blk_cell BK160.out 0).trans rfl
        have hcz23_1 : w6.cell? ⟨gb160, 1, none⟩ = some (.int .u8 a0_1) := (blk_cell BK160.out 1).trans rfl
        have hcz23_2 : w6.cell? ⟨gb160, 2, none⟩ = some (.int .u8 a0_2) := (blk_cell BK160.out 2).trans rfl
        have hcz23_3 : w6.cell? ⟨gb160, 3, none⟩ = some (.int .i16 a0_3) := (blk_cell BK160.out 3).trans rfl
        have hcz23_4 : w6.cell? ⟨gb160, 4, none⟩ = some (.int .i32 a0_4) := (blk_cell BK160.out 4).trans rfl
        have hfz23_0 := blk_frozen BK160.out 0
        have hfz23_1 := blk_frozen BK160.out 1
        have hfz23_2 := blk_frozen BK160.out 2
        have hfz23_3 := blk_frozen BK160.out 3
        have hfz23_4 := blk_frozen BK160.out 4
        go_wp2_with (first | (go_at_call 52; (with_reducible refine (insn_reckons.calls k a0_0 a0_1 a0_2 a0_3 a0_4 false _ A19.out).mono ?_); rintro e w24 ⟨rfl, hb⟩; have n0_ := am (blk_below (g := gb160) (o := .cells #[.int .u8 a0_0, .int .u8 a0_1, .int .u8 a0_2, .int .i16 a0_3, .int .i32 a0_4] 24 (0, 0)) (by first | exact BK160.out | exact blk_drewN BK160.out _) hb); have n1_ := am (below_step (by repeat (first | exact HB.out | apply pb | apply pa | apply pd | refine below_set ?_ GE160.out)) hb); clear BK160; clear HB; have BK160 := n0_; have HB := n1_; clear n0_ n1_; (try clear hb); (try clear hb2); (try clear hk); (try clear hi)))
        repeat (go_quiet (first | (go_at_call 52; (with_reducible refine (insn_reckons.calls k a0_0 a0_1 a0_2 a0_3 a0_4 false _ A19.out).mono ?_); rintro e w24 ⟨rfl, hb⟩; have n0_ := am (blk_below (g := gb160) (o := .cells #[.int .u8 a0_0, .int .u8 a0_1, .int .u8 a0_2, .int .i16 a0_3, .int .i32 a0_4] 24 (0, 0)) (by first | exact BK160.out | exact blk_drewN BK160.out _) hb); have n1_ := am (below_step (by repeat (first | exact HB.out | apply pb | apply pa | apply pd | refine below_set ?_ GE160.out)) hb); clear BK160; clear HB; have BK160 := n0_; have HB := n1_; clear n0_ n1_; (try clear hb); (try clear hb2); (try clear hk); (try clear hi))); try go_wp2_with (first | (go_at_call 52; (with_reducible refine (insn_reckons.calls k a0_0 a0_1 a0_2 a0_3 a0_4 false _ A19.out).mono ?_); rintro e w24 ⟨rfl, hb⟩; have n0_ := am (blk_below (g := gb160) (o := .cells #[.int .u8 a0_0, .int .u8 a0_1, .int .u8 a0_2, .int .i16 a0_3, .int .i32 a0_4] 24 (0, 0)) (by first | exact BK160.out | exact blk_drewN BK160.out _) hb); have n1_ := am (below_step (by repeat (first | exact HB.out | apply pb | apply pa | apply pd | refine below_set ?_ GE160.out)) hb); clear BK160; clear HB; have BK160 := n0_; have HB := n1_; clear n0_ n1_; (try clear hb); (try clear hb2); (try clear hk); (try clear hi))))
        go_ret
        exact ⟨by first | rfl | (simp [errW_none, errW_some] <;> rfl) | (simp [*, errW_none, errW_some] <;> rfl), by repeat (first | (with_reducible first | exact HB.out | apply below_alloc | apply pw_below_drewN | apply below_drew1 | refine below_set ?_ GE160.out) | exact HB.out)⟩
     ·rw [if_neg c17] at H
      have c17b0 : (t161 == 7) = false := beq_eq_false_iff_ne.mpr c17
      have c17b1 : (t161 != 7) = true := bne_iff_ne.mpr c17
      by_cases c25 : t161 = 1
      ·rw [if_pos c25] at H
       have c25b0 : (t161 == 1) = true := beq_iff_eq.mpr c25
       have c25b1 : (t161 != 1) = false := bne_eq_false_iff_eq.mpr c25
       clear c25
       have HC26 := am H
       clear H
       go_upto_region 13 with (fail)
       repeat (go_quiet (fail); go_upto_region 13 with (fail))
       go_cut [3, 4, 43] (fun v3 v4 v43 wc => ∃ (kq : Nat) (x43_25 : Bool), v43 = .bool x43_25 ∧ Aside0 (insn_Kind.j1 kq x43_25 = some r) ∧ Aside0 (kq ≤ k) ∧ Aside0 (wc.heap[gb160]? = some (.cells #[.int .u8 a0_0, .int .u8 a0_1, .int .u8 a0_2, .int .i16 a0_3, .int .i32 a0_4] 24 (0, 0))) ∧ Aside0 (Below w.heap.size w wc))
       case first =>
        have H := HC26.out
        clear HC26
        by_cases c27 : (Go.bits .and .u8 a0_0 224) = 96
        ·rw [if_pos c27] at H
         have c27b0 : ((Go.bits .and .u8 a0_0 224) == 96) = true := beq_iff_eq.mpr c27
         have c27b1 : ((Go.bits .and .u8 a0_0 224) != 96) = false := bne_eq_false_iff_eq.mpr c27
         clear c27

         by_cases c28 : a0_1 = 10
         ·rw [if_pos c28] at H
          have c28b0 : (a0_1 == 10) = true := beq_iff_eq.mpr c28
          have c28b1 : (a0_1 != 10) = false := bne_eq_false_iff_eq.mpr c28
          clear c28
          have H' := am H
          clear H
          go_wp2
          repeat (go_quiet (fail); try go_wp2)
          go_meet
          case rel => exact ⟨_, (false), (by first | rfl | (simp; done) | (simp [*]; done)), H', ⟨by first | omega | exact Nat.le_refl _⟩, ⟨by (with_reducible repeat (first | refine blk_drewN ?_ _ | refine blk_drew ?_ | refine blk_alloc ?_ _)); exact BK160.out⟩, ⟨by repeat (first | (with_reducible first | exact HB.out | apply below_alloc | apply pw_below_drewN | apply below_drew1 | refine below_set ?_ GE160.out) | exact HB.out)⟩⟩
         ·rw [if_neg c28] at H
          have c28b0 : (a0_1 == 10) = false := beq_eq_false_iff_ne.mpr c28
          have c28b1 : (a0_1 != 10) = true := bne_iff_ne.mpr c28
          obtain ⟨y173, hy173⟩ : ∃ y_ : List Int, y_ = (([1, 2, 4] : List Int)) := ⟨_, rfl⟩
          replace H : ((insn_uses.f k a0_0 a0_1 a0_2 a0_3 a0_4 y173).bind fun t176 => (insn_Kind.j1 k t176)) = some r := by first | (rw [hy173]; with_reducible exact H) | (have H2_ := (Option.bind_some _ _).symm.trans H; rw [hy173]; with_reducible exact H2_) | (have H2_ := (Option.bind_some _ _).symm.trans H; with_reducible exact H2_) | with_reducible exact H | (rw [hy173]; exact H) | exact H
          have Ny173 := am hy173
          clear hy173
          replace H := Option.bind_eq_some_iff.mp H
          obtain ⟨t176, A290, H⟩ := H
          try dsimp only at H
          have A29 := am A290
          clear A290
          have H' := am H
          clear H
          have hcz30_0 : w6.cell? ⟨gb160, 0, none⟩ = some (.int .u8 a0_0) := (blk_cell BK160.out 0).trans rfl
          have hcz30_1 : w6.cell? ⟨gb160, 1, none⟩ = some (.int .u8 a0_1) := (blk_cell BK160.out 1).trans rfl
          have hcz30_2 : w6.cell? ⟨gb160, 2, none⟩ = some (.int .u8 a0_2) := (blk_cell BK160.out 2).trans rfl
          have hcz30_3 : w6.cell? ⟨gb160, 3, none⟩ = some (.int .i16 a0_3) := (blk_cell BK160.out 3).trans rfl
          have hcz30_4 : w6.cell? ⟨gb160, 4, none⟩ = some (.int .i32 a0_4) := (blk_cell BK160.out 4).trans rfl
          have hfz30_0 := blk_frozen BK160.out 0
          have hfz30_1 := blk_frozen BK160.out 1
          have hfz30_2 := blk_frozen BK160.out 2
          have hfz30_3 := blk_frozen BK160.out 3
          have hfz30_4 := blk_frozen BK160.out 4
          go_wp2_with (first | ((with_reducible refine gate_dst (N := 41) rfl ?_); (try (refine gate_guard (by rfl) ?_; dsimp only)); refine Kd.R_lit (Kd.int .i64) _ 3 ?hg (N := 41) ?hd (xs := ([1, 2, 4] : List Int)) (inner := [.int .i64 1, .int .i64 2, .int .i64 4]) (ok := fun _ => True) (okp := fun _ => True) ?hr ?hp (fun _ hk => hk) trivial (Below.refl _ _) (Nat.le_refl _) (by simp) ?_; (case hd => rfl); (case hg => rfl); (case hr => first | (go_simp; done) | (go_simp; rfl)); (case hp => exact (Reps.one (show Kd.M (Kd.int .i64) _ _ _ 1 [.int .i64 1] from rfl) (Reps.one (show Kd.M (Kd.int .i64) _ _ _ 2 [.int .i64 2] from rfl) (Reps.one (show Kd.M (Kd.int .i64) _ _ _ 4 [.int .i64 4] from rfl) (Reps.none _ _))))); intro v174 w31 ho32 hb hg_ hnew_; clear hg_ hnew_; (first | rw [← Ny173.out] at ho32 | (simp only [Int.reduceToNat] at ho32; rw [← Ny173.out] at ho32)); have n0_ := am (Kd.R_lower ho32 (below_size (by repeat (first | exact HB.out | apply pb | apply pa | apply pd | refine below_set ?_ GE160.out)))); have n1_ := am (blk_below (g := gb160) (o := .cells #[.int .u8 a0_0, .int .u8 a0_1, .int .u8 a0_2, .int .i16 a0_3, .int .i32 a0_4] 24 (0, 0)) (by first | exact BK160.out | exact blk_drewN BK160.out _) hb); have n2_ := am (below_step (by repeat (first | exact HB.out | apply pb | apply pa | apply pd | refine below_set ?_ GE160.out)) hb); clear BK160; clear HB; have HO175 := n0_; have BK160 := n1_; have HB := n2_; clear n0_ n1_ n2_; clear hb ho32; obtain ⟨Ao33, co33, eo33⟩ := Kd.R_slice HO175.out; subst eo33) | (go_at_call 53; (with_reducible refine (insn_uses.calls k a0_0 a0_1 a0_2 a0_3 a0_4 _ _ y173 t176 _ ?side1 ?side2 A29.out).mono ?_); (case side1 => repeat (first | exact (Kd.R_reads' HO175.out).2.2 | (with_reducible refine Kd.C_alloc ?_ _) | (with_reducible refine Kd.C_drewN ?_ _) | (with_reducible refine Kd.C_drew ?_))); (case side2 => exact (Kd.R_reads' HO175.out).2.1); rintro e w34 ⟨rfl, hb⟩; have n0_ := am (Kd.R_below (by (with_reducible repeat (first | apply Kd.R_alloc | apply Kd.R_drewN | apply Kd.R_drew)); exact HO175.out) hb); have n1_ := am (blk_below (g := gb160) (o := .cells #[.int .u8 a0_0, .int .u8 a0_1, .int .u8 a0_2, .int .i16 a0_3, .int .i32 a0_4] 24 (0, 0)) (by first | exact BK160.out | exact blk_drewN BK160.out _) hb); have n2_ := am (below_step (by repeat (first | exact HB.out | apply pb | apply pa | apply pd | refine below_set ?_ GE160.out)) hb); clear HO175; clear BK160; clear HB; have HO175 := n0_; have BK160 := n1_; have HB := n2_; clear n0_ n1_ n2_; (try clear hb); (try clear hb2); (try clear hk); (try clear hi)))
          repeat (go_quiet (first | ((with_reducible refine gate_dst (N := 41) rfl ?_); (try (refine gate_guard (by rfl) ?_; dsimp only)); refine Kd.R_lit (Kd.int .i64) _ 3 ?hg (N := 41) ?hd (xs := ([1, 2, 4] : List Int)) (inner := [.int .i64 1, .int .i64 2, .int .i64 4]) (ok := fun _ => True) (okp := fun _ => True) ?hr ?hp (fun _ hk => hk) trivial (Below.refl _ _) (Nat.le_refl _) (by simp) ?_; (case hd => rfl); (case hg => rfl); (case hr => first | (go_simp; done) | (go_simp; rfl)); (case hp => exact (Reps.one (show Kd.M (Kd.int .i64) _ _ _ 1 [.int .i64 1] from rfl) (Reps.one (show Kd.M (Kd.int .i64) _ _ _ 2 [.int .i64 2] from rfl) (Reps.one (show Kd.M (Kd.int .i64) _ _ _ 4 [.int .i64 4] from rfl) (Reps.none _ _))))); intro v174 w31 ho32 hb hg_ hnew_; clear hg_ hnew_; (first | rw [← Ny173.out] at ho32 | (simp only [Int.reduceToNat] at ho32; rw [← Ny173.out] at ho32)); have n0_ := am (Kd.R_lower ho32 (below_size (by repeat (first | exact HB.out | apply pb | apply pa | apply pd | refine below_set ?_ GE160.out)))); have n1_ := am (blk_below (g := gb160) (o := .cells #[.int .u8 a0_0, .int .u8 a0_1, .int .u8 a0_2, .int .i16 a0_3, .int .i32 a0_4] 24 (0, 0)) (by first | exact BK160.out | exact blk_drewN BK160.out _) hb); have n2_ := am (below_step (by repeat (first | exact HB.out | apply pb | apply pa | apply pd | refine below_set ?_ GE160.out)) hb); clear BK160; clear HB; have HO175 := n0_; have BK160 := n1_; have HB := n2_; clear n0_ n1_ n2_; clear hb ho32; obtain ⟨Ao33, co33, eo33⟩ := Kd.R_slice HO175.out; subst eo33) | (go_at_call 53; (with_reducible refine (insn_uses.calls k a0_0 a0_1 a0_2 a0_3 a0_4 _ _ y173 t176 _ ?side1 ?side2 A29.out).mono ?_); (case side1 => repeat (first | exact (Kd.R_reads' HO175.out).2.2 | (with_reducible refine Kd.C_alloc ?_ _) | (with_reducible refine Kd.C_drewN ?_ _) | (with_reducible refine Kd.C_drew ?_))); (case side2 => exact (Kd.R_reads' HO175.out).2.1); rintro e w34 ⟨rfl, hb⟩; have n0_ := am (Kd.R_below (by (with_reducible repeat (first | apply Kd.R_alloc | apply Kd.R_drewN | apply Kd.R_drew)); exact HO175.out) hb); have n1_ := am (blk_below (g := gb160) (o := .cells #[.int .u8 a0_0, .int .u8 a0_1, .int .u8 a0_2, .int .i16 a0_3, .int .i32 a0_4] 24 (0, 0)) (by first | exact BK160.out | exact blk_drewN BK160.out _) hb); have n2_ := am (below_step (by repeat (first | exact HB.out | apply pb | apply pa | apply pd | refine below_set ?_ GE160.out)) hb); clear HO175; clear BK160; clear HB; have HO175 := n0_; have BK160 := n1_; have HB := n2_; clear n0_ n1_ n2_; (try clear hb); (try clear hb2); (try clear hk); (try clear hi))); try go_wp2_with (first | ((with_reducible refine gate_dst (N := 41) rfl ?_); (try (refine gate_guard (by rfl) ?_; dsimp only)); refine Kd.R_lit (Kd.int .i64) _ 3 ?hg (N := 41) ?hd (xs := ([1, 2, 4] : List Int)) (inner := [.int .i64 1, .int .i64 2, .int .i64 4]) (ok := fun _ => True) (okp := fun _ => True) ?hr ?hp (fun _ hk => hk) trivial (Below.refl _ _) (Nat.le_refl _) (by simp) ?_; (case hd => rfl); (case hg => rfl); (case hr => first | (go_simp; done) | (go_simp; rfl)); (case hp => exact (Reps.one (show Kd.M (Kd.int .i64) _ _ _ 1 [.int .i64 1] from rfl) (Reps.one (show Kd.M (Kd.int .i64) _ _ _ 2 [.int .i64 2] from rfl) (Reps.one (show Kd.M (Kd.int .i64) _ _ _ 4 [.int .i64 4] from rfl) (Reps.none _ _))))); intro v174 w31 ho32 hb hg_ hnew_; clear hg_ hnew_; (first | rw [← Ny173.out] at ho32 | (simp only [Int.reduceToNat] at ho32; rw [← Ny173.out] at ho32)); have n0_ := am (Kd.R_lower ho32 (below_size (by repeat (first | exact HB.out | apply pb | apply pa | apply pd | refine below_set ?_ GE160.out)))); have n1_ := am (blk_below (g := gb160) (o := .cells #[.int .u8 a0_0, .int .u8 a0_1, .int .u8 a0_2, .int .i16 a0_3, .int .i32 a0_4] 24 (0, 0)) (by first | exact BK160.out | exact blk_drewN BK160.out _) hb); have n2_ := am (below_step (by repeat (first | exact HB.out | apply pb | apply pa | apply pd | refine below_set ?_ GE160.out)) hb); clear BK160; clear HB; have HO175 := n0_; have BK160 := n1_; have HB := n2_; clear n0_ n1_ n2_; clear hb ho32; obtain ⟨Ao33, co33, eo33⟩ := Kd.R_slice HO175.out; subst eo33) | (go_at_call 53; (with_reducible refine (insn_uses.calls k a0_0 a0_1 a0_2 a0_3 a0_4 _ _ y173 t176 _ ?side1 ?side2 A29.out).mono ?_); (case side1 => repeat (first | exact (Kd.R_reads' HO175.out).2.2 | (with_reducible refine Kd.C_alloc ?_ _) | (with_reducible refine Kd.C_drewN ?_ _) | (with_reducible refine Kd.C_drew ?_))); (case side2 => exact (Kd.R_reads' HO175.out).2.1); rintro e w34 ⟨rfl, hb⟩; have n0_ := am (Kd.R_below (by (with_reducible repeat (first | apply Kd.R_alloc | apply Kd.R_drewN | apply Kd.R_drew)); exact HO175.out) hb); have n1_ := am (blk_below (g := gb160) (o := .cells #[.int .u8 a0_0, .int .u8 a0_1, .int .u8 a0_2, .int .i16 a0_3, .int .i32 a0_4] 24 (0, 0)) (by first | exact BK160.out | exact blk_drewN BK160.out _) hb); have n2_ := am (below_step (by repeat (first | exact HB.out | apply pb | apply pa | apply pd | refine below_set ?_ GE160.out)) hb); clear HO175; clear BK160; clear HB; have HO175 := n0_; have BK160 := n1_; have HB := n2_; clear n0_ n1_ n2_; (try clear hb); (try clear hb2); (try clear hk); (try clear hi))))
          go_meet
          case rel => exact ⟨_, (t176), (by first | rfl | (simp; done) | (simp [*]; done)), H', ⟨by first | omega | exact Nat.le_refl _⟩, ⟨by (with_reducible repeat (first | refine blk_drewN ?_ _ | refine blk_drew ?_ | refine blk_alloc ?_ _)); exact BK160.out⟩, ⟨by repeat (first | (with_reducible first | exact HB.out | apply below_alloc | apply pw_below_drewN | apply below_drew1 | refine below_set ?_ GE160.out) | exact HB.out)⟩⟩
        ·rw [if_neg c27] at H
         have c27b0 : ((Go.bits .and .u8 a0_0 224) == 96) = false := beq_eq_false_iff_ne.mpr c27
         have c27b1 : ((Go.bits .and .u8 a0_0 224) != 96) = true := bne_iff_ne.mpr c27

         have H' := am H
         clear H
         go_wp2
         repeat (go_quiet (fail); try go_wp2)
         go_meet
         case rel => exact ⟨_, (false), (by first | rfl | (simp; done) | (simp [*]; done)), H', ⟨by first | omega | exact Nat.le_refl _⟩, ⟨by (with_reducible repeat (first | refine blk_drewN ?_ _ | refine blk_drew ?_ | refine blk_alloc ?_ _)); exact BK160.out⟩, ⟨by repeat (first | (with_reducible first | exact HB.out | apply below_alloc | apply pw_below_drewN | apply below_drew1 | refine below_set ?_ GE160.out) | exact HB.out)⟩⟩
       case rest =>
        clear HC26
        try clear c1
        try clear c2
        try clear p2
        try clear c7
        try clear c7b0
        try clear c7b1
        try clear c8
        try clear c8b0
        try clear c8b1
        try clear c9
        try clear c9b0
        try clear c9b1
        try clear c10
        try clear c10b0
        try clear c10b1
        try clear c12
        try clear c17
        try clear c17b0
        try clear c17b1
        try clear c18
        try clear c18b0
        try clear c18b1
        try clear c19
        try clear c20
        try clear c25
        try clear c25b0
        try clear c25b1
        try clear c27
        try clear c27b0
        try clear c27b1
        try clear c28
        try clear c28b0
        try clear c28b1
        try clear hcz13_0
        try clear hcz13_1
        try clear hcz13_2
        try clear hcz13_3
        try clear hcz13_4
        try clear hcz15_0
        try clear hcz15_1
        try clear hcz15_2
        try clear hcz15_3
        try clear hcz15_4
        try clear hcz21_0
        try clear hcz21_1
        try clear hcz21_2
        try clear hcz21_3
        try clear hcz21_4
        try clear hcz23_0
        try clear hcz23_1
        try clear hcz23_2
        try clear hcz23_3
        try clear hcz23_4
        try clear hcz30_0
        try clear hcz30_1
        try clear hcz30_2
        try clear hcz30_3
        try clear hcz30_4
        try clear hcz5_0
        try clear hcz5_1
        try clear hcz5_2
        try clear hcz5_3
        try clear hcz5_4
        try clear hfz13_0
        try clear hfz13_1
        try clear hfz13_2
        try clear hfz13_3
        try clear hfz13_4
        try clear hfz15_0
        try clear hfz15_1
        try clear hfz15_2
        try clear hfz15_3
        try clear hfz15_4
        try clear hfz21_0
        try clear hfz21_1
        try clear hfz21_2
        try clear hfz21_3
        try clear hfz21_4
        try clear hfz23_0
        try clear hfz23_1
        try clear hfz23_2
        try clear hfz23_3
        try clear hfz23_4
        try clear hfz30_0
        try clear hfz30_1
        try clear hfz30_2
        try clear hfz30_3
        try clear hfz30_4
        try clear hfz5_0
        try clear hfz5_1
        try clear hfz5_2
        try clear hfz5_3
        try clear hfz5_4
        obtain ⟨kq, x43_25, rfl, HA, HJ25, BK160, HB⟩ := hcut
        cases kq with
        | zero => exact absurd HA.out (by simp [insn_Kind.j1])
        | succ kj25 =>
         have H := HA.out
         clear HA
         simp only [insn_Kind.j1] at H
         by_cases c35 : x43_25 = true
         ·subst c35
          have H1 : (some 2) = some r := by rw [if_pos rfl] at H; exact H
          clear H
          have H := H1
          clear H1
          obtain rfl := Option.some.inj H
          go_wp2
          repeat (go_quiet (fail); try go_wp2)
          go_ret
          exact ⟨by first | rfl | (simp [errW_none, errW_some] <;> rfl) | (simp [*, errW_none, errW_some] <;> rfl), by repeat (first | (with_reducible first | exact HB.out | apply below_alloc | apply pw_below_drewN | apply below_drew1 | refine below_set ?_ GE160.out) | exact HB.out)⟩
         ·replace c35 := Bool.eq_false_iff.mpr c35
          subst c35
          have H1 : (some 0) = some r := by rw [if_neg (show ¬ (false = true) by decide)] at H; exact H
          clear H
          have H := H1
          clear H1
          obtain rfl := Option.some.inj H
          go_wp2
          repeat (go_quiet (fail); try go_wp2)
          go_ret
          exact ⟨by first | rfl | (simp [errW_none, errW_some] <;> rfl) | (simp [*, errW_none, errW_some] <;> rfl), by repeat (first | (with_reducible first | exact HB.out | apply below_alloc | apply pw_below_drewN | apply below_drew1 | refine below_set ?_ GE160.out) | exact HB.out)⟩
      ·rw [if_neg c25] at H
       have c25b0 : (t161 == 1) = false := beq_eq_false_iff_ne.mpr c25
       have c25b1 : (t161 != 1) = true := bne_iff_ne.mpr c25
       by_cases c36 : t161 = 2
       ·rw [if_pos c36] at H
        have c36b0 : (t161 == 2) = true := beq_iff_eq.mpr c36
        have c36b1 : (t161 != 2) = false := bne_eq_false_iff_eq.mpr c36
        clear c36
        by_cases c37 : (Go.bits .and .u8 a0_0 224) = 96
        ·rw [if_pos c37] at H
         have c37b0 : ((Go.bits .and .u8 a0_0 224) == 96) = true := beq_iff_eq.mpr c37
         have c37b1 : ((Go.bits .and .u8 a0_0 224) != 96) = false := bne_eq_false_iff_eq.mpr c37
         clear c37
         obtain ⟨y164, hy164⟩ : ∃ y_ : List Int, y_ = (([1, 4, 8] : List Int)) := ⟨_, rfl⟩
         replace H : ((insn_uses.f k a0_0 a0_1 a0_2 a0_3 a0_4 y164).bind fun t167 => (if t167 = true then (some 3) else (some 0))) = some r := by first | (rw [hy164]; with_reducible exact H) | (have H2_ := (Option.bind_some _ _).symm.trans H; rw [hy164]; with_reducible exact H2_) | (have H2_ := (Option.bind_some _ _).symm.trans H; with_reducible exact H2_) | with_reducible exact H | (rw [hy164]; exact H) | exact H
         have Ny164 := am hy164
         clear hy164
         replace H := Option.bind_eq_some_iff.mp H
         obtain ⟨t167, A380, H⟩ := H
         try dsimp only at H
         have A38 := am A380
         clear A380
         by_cases c39 : t167 = true
         ·subst c39
          have H1 : (some 3) = some r := by rw [if_pos rfl] at H; exact H
          clear H
          have H := H1
          clear H1
          obtain rfl := Option.some.inj H
          have hcz40_0 : w6.cell? ⟨gb160, 0, none⟩ = some (.int .u8 a0_0) := (blk_cell BK160.out 0).trans rfl
          have hcz40_1 : w6.cell? ⟨gb160, 1, none⟩ = some (.int .u8 a0_1) := (blk_cell BK160.out 1).trans rfl
          have hcz40_2 : w6.cell? ⟨gb160, 2, none⟩ = some (.int .u8 a0_2) := (blk_cell BK160.out 2).trans rfl
          have hcz40_3 : w6.cell? ⟨gb160, 3, none⟩ = some (.int .i16 a0_3) := (blk_cell BK160.out 3).trans rfl
          have hcz40_4 : w6.cell? ⟨gb160, 4, none⟩ = some (.int .i32 a0_4) := (blk_cell BK160.out 4).trans rfl
          have hfz40_0 := blk_frozen BK160.out 0
          have hfz40_1 := blk_frozen BK160.out 1
          have hfz40_2 := blk_frozen BK160.out 2
          have hfz40_3 := blk_frozen BK160.out 3
          have hfz40_4 := blk_frozen BK160.out 4
          go_wp2_with (first | ((with_reducible refine gate_dst (N := 47) rfl ?_); (try (refine gate_guard (by rfl) ?_; dsimp only)); refine Kd.R_lit (Kd.int .i64) _ 3 ?hg (N := 47) ?hd (xs := ([1, 4, 8] : List Int)) (inner := [.int .i64 1, .int .i64 4, .int .i64 8]) (ok := fun _ => True) (okp := fun _ => True) ?hr ?hp (fun _ hk => hk) trivial (Below.refl _ _) (Nat.le_refl _) (by simp) ?_; (case hd => rfl); (case hg => rfl); (case hr => first | (go_simp; done) | (go_simp; rfl)); (case hp => exact (Reps.one (show Kd.M (Kd.int .i64) _ _ _ 1 [.int .i64 1] from rfl) (Reps.one (show Kd.M (Kd.int .i64) _ _ _ 4 [.int .i64 4] from rfl) (Reps.one (show Kd.M (Kd.int .i64) _ _ _ 8 [.int .i64 8] from rfl) (Reps.none _ _))))); intro v165 w41 ho42 hb hg_ hnew_; clear hg_ hnew_; (first | rw [← Ny164.out] at ho42 | (simp only [Int.reduceToNat] at ho42; rw [← Ny164.out] at ho42)); have n0_ := am (Kd.R_lower ho42 (below_size (by repeat (first | exact HB.out | apply pb | apply pa | apply pd | refine below_set ?_ GE160.out)))); have n1_ := am (blk_below (g := gb160) (o := .cells #[.int .u8 a0_0, .int .u8 a0_1, .int .u8 a0_2, .int .i16 a0_3, .int .i32 a0_4] 24 (0, 0)) (by first | exact BK160.out | exact blk_drewN BK160.out _) hb); have n2_ := am (below_step (by repeat (first | exact HB.out | apply pb | apply pa | apply pd | refine below_set ?_ GE160.out)) hb); clear BK160; clear HB; have HO166 := n0_; have BK160 := n1_; have HB := n2_; clear n0_ n1_ n2_; clear hb ho42; obtain ⟨Ao43, co43, eo43⟩ := Kd.R_slice HO166.out; subst eo43) | (go_at_call 53; (with_reducible refine (insn_uses.calls k a0_0 a0_1 a0_2 a0_3 a0_4 _ _ y164 true _ ?side1 ?side2 A38.out).mono ?_); (case side1 => repeat (first | exact (Kd.R_reads' HO166.out).2.2 | (with_reducible refine Kd.C_alloc ?_ _) | (with_reducible refine Kd.C_drewN ?_ _) | (with_reducible refine Kd.C_drew ?_))); (case side2 => exact (Kd.R_reads' HO166.out).2.1); rintro e w44 ⟨rfl, hb⟩; have n0_ := am (Kd.R_below (by (with_reducible repeat (first | apply Kd.R_alloc | apply Kd.R_drewN | apply Kd.R_drew)); exact HO166.out) hb); have n1_ := am (blk_below (g := gb160) (o := .cells #[.int .u8 a0_0, .int .u8 a0_1, .int .u8 a0_2, .int .i16 a0_3, .int .i32 a0_4] 24 (0, 0)) (by first | exact BK160.out | exact blk_drewN BK160.out _) hb); have n2_ := am (below_step (by repeat (first | exact HB.out | apply pb | apply pa | apply pd | refine below_set ?_ GE160.out)) hb); clear HO166; clear BK160; clear HB; have HO166 := n0_; have BK160 := n1_; have HB := n2_; clear n0_ n1_ n2_; (try clear hb); (try clear hb2); (try clear hk); (try clear hi)))
          repeat (go_quiet (first | ((with_reducible refine gate_dst (N := 47) rfl ?_); (try (refine gate_guard (by rfl) ?_; dsimp only)); refine Kd.R_lit (Kd.int .i64) _ 3 ?hg (N := 47) ?hd (xs := ([1, 4, 8] : List Int)) (inner := [.int .i64 1, .int .i64 4, .int .i64 8]) (ok := fun _ => True) (okp := fun _ => True) ?hr ?hp (fun _ hk => hk) trivial (Below.refl _ _) (Nat.le_refl _) (by simp) ?_; (case hd => rfl); (case hg => rfl); (case hr => first | (go_simp; done) | (go_simp; rfl)); (case hp => exact (Reps.one (show Kd.M (Kd.int .i64) _ _ _ 1 [.int .i64 1] from rfl) (Reps.one (show Kd.M (Kd.int .i64) _ _ _ 4 [.int .i64 4] from rfl) (Reps.one (show Kd.M (Kd.int .i64) _ _ _ 8 [.int .i64 8] from rfl) (Reps.none _ _))))); intro v165 w41 ho42 hb hg_ hnew_; clear hg_ hnew_; (first | rw [← Ny164.out] at ho42 | (simp only [Int.reduceToNat] at ho42; rw [← Ny164.out] at ho42)); have n0_ := am (Kd.R_lower ho42 (below_size (by repeat (first | exact HB.out | apply pb | apply pa | apply pd | refine below_set ?_ GE160.out)))); have n1_ := am (blk_below (g := gb160) (o := .cells #[.int .u8 a0_0, .int .u8 a0_1, .int .u8 a0_2, .int .i16 a0_3, .int .i32 a0_4] 24 (0, 0)) (by first | exact BK160.out | exact blk_drewN BK160.out _) hb); have n2_ := am (below_step (by repeat (first | exact HB.out | apply pb | apply pa | apply pd | refine below_set ?_ GE160.out)) hb); clear BK160; clear HB; have HO166 := n0_; have BK160 := n1_; have HB := n2_; clear n0_ n1_ n2_; clear hb ho42; obtain ⟨Ao43, co43, eo43⟩ := Kd.R_slice HO166.out; subst eo43) | (go_at_call 53; (with_reducible refine (insn_uses.calls k a0_0 a0_1 a0_2 a0_3 a0_4 _ _ y164 true _ ?side1 ?side2 A38.out).mono ?_); (case side1 => repeat (first | exact (Kd.R_reads' HO166.out).2.2 | (with_reducible refine Kd.C_alloc ?_ _) | (with_reducible refine Kd.C_drewN ?_ _) | (with_reducible refine Kd.C_drew ?_))); (case side2 => exact (Kd.R_reads' HO166.out).2.1); rintro e w44 ⟨rfl, hb⟩; have n0_ := am (Kd.R_below (by (with_reducible repeat (first | apply Kd.R_alloc | apply Kd.R_drewN | apply Kd.R_drew)); exact HO166.out) hb); have n1_ := am (blk_below (g := gb160) (o := .cells #[.int .u8 a0_0, .int .u8 a0_1, .int .u8 a0_2, .int .i16 a0_3, .int .i32 a0_4] 24 (0, 0)) (by first | exact BK160.out | exact blk_drewN BK160.out _) hb); have n2_ := am (below_step (by repeat (first | exact HB.out | apply pb | apply pa | apply pd | refine below_set ?_ GE160.out)) hb); clear HO166; clear BK160; clear HB; have HO166 := n0_; have BK160 := n1_; have HB := n2_; clear n0_ n1_ n2_; (try clear hb); (try clear hb2); (try clear hk); (try clear hi))); try go_wp2_with (first | ((with_reducible refine gate_dst (N := 47) rfl ?_); (try (refine gate_guard (by rfl) ?_; dsimp only)); refine Kd.R_lit (Kd.int .i64) _ 3 ?hg (N := 47) ?hd (xs := ([1, 4, 8] : List Int)) (inner := [.int .i64 1, .int .i64 4, .int .i64 8]) (ok := fun _ => True) (okp := fun _ => True) ?hr ?hp (fun _ hk => hk) trivial (Below.refl _ _) (Nat.le_refl _) (by simp) ?_; (case hd => rfl); (case hg => rfl); (case hr => first | (go_simp; done) | (go_simp; rfl)); (case hp => exact (Reps.one (show Kd.M (Kd.int .i64) _ _ _ 1 [.int .i64 1] from rfl) (Reps.one (show Kd.M (Kd.int .i64) _ _ _ 4 [.int .i64 4] from rfl) (Reps.one (show Kd.M (Kd.int .i64) _ _ _ 8 [.int .i64 8] from rfl) (Reps.none _ _))))); intro v165 w41 ho42 hb hg_ hnew_; clear hg_ hnew_; (first | rw [← Ny164.out] at ho42 | (simp only [Int.reduceToNat] at ho42; rw [← Ny164.out] at ho42)); have n0_ := am (Kd.R_lower ho42 (below_size (by repeat (first | exact HB.out | apply pb | apply pa | apply pd | refine below_set ?_ GE160.out)))); have n1_ := am (blk_below (g := gb160) (o := .cells #[.int .u8 a0_0, .int .u8 a0_1, .int .u8 a0_2, .int .i16 a0_3, .int .i32 a0_4] 24 (0, 0)) (by first | exact BK160.out | exact blk_drewN BK160.out _) hb); have n2_ := am (below_step (by repeat (first | exact HB.out | apply pb | apply pa | apply pd | refine below_set ?_ GE160.out)) hb); clear BK160; clear HB; have HO166 := n0_; have BK160 := n1_; have HB := n2_; clear n0_ n1_ n2_; clear hb ho42; obtain ⟨Ao43, co43, eo43⟩ := Kd.R_slice HO166.out; subst eo43) | (go_at_call 53; (with_reducible refine (insn_uses.calls k a0_0 a0_1 a0_2 a0_3 a0_4 _ _ y164 true _ ?side1 ?side2 A38.out).mono ?_); (case side1 => repeat (first | exact (Kd.R_reads' HO166.out).2.2 | (with_reducible refine Kd.C_alloc ?_ _) | (with_reducible refine Kd.C_drewN ?_ _) | (with_reducible refine Kd.C_drew ?_))); (case side2 => exact (Kd.R_reads' HO166.out).2.1); rintro e w44 ⟨rfl, hb⟩; have n0_ := am (Kd.R_below (by (with_reducible repeat (first | apply Kd.R_alloc | apply Kd.R_drewN | apply Kd.R_drew)); exact HO166.out) hb); have n1_ := am (blk_below (g := gb160) (o := .cells #[.int .u8 a0_0, .int .u8 a0_1, .int .u8 a0_2, .int .i16 a0_3, .int .i32 a0_4] 24 (0, 0)) (by first | exact BK160.out | exact blk_drewN BK160.out _) hb); have n2_ := am (below_step (by repeat (first | exact HB.out | apply pb | apply pa | apply pd | refine below_set ?_ GE160.out)) hb); clear HO166; clear BK160; clear HB; have HO166 := n0_; have BK160 := n1_; have HB := n2_; clear n0_ n1_ n2_; (try clear hb); (try clear hb2); (try clear hk); (try clear hi))))
          go_ret
          exact ⟨by first | rfl | (simp [errW_none, errW_some] <;> rfl) | (simp [*, errW_none, errW_some] <;> rfl), by repeat (first | (with_reducible first | exact HB.out | apply below_alloc | apply pw_below_drewN | apply below_drew1 | refine below_set ?_ GE160.out) | exact HB.out)⟩
         ·replace c39 := Bool.eq_false_iff.mpr c39
          subst c39
          have H1 : (some 0) = some r := by rw [if_neg (show ¬ (false = true) by decide)] at H; exact H
          clear H
          have H := H1
          clear H1
          obtain rfl := Option.some.inj H
          have hcz45_0 : w6.cell? ⟨gb160, 0, none⟩ = some (.int .u8 a0_0) := (blk_cell BK160.out 0).trans rfl
          have hcz45_1 : w6.cell? ⟨gb160, 1, none⟩ = some (.int .u8 a0_1) := (blk_cell BK160.out 1).trans rfl
          have hcz45_2 : w6.cell? ⟨gb160, 2, none⟩ = some (.int .u8 a0_2) := (blk_cell BK160.out 2).trans rfl
          have hcz45_3 : w6.cell? ⟨gb160, 3, none⟩ = some (.int .i16 a0_3) := (blk_cell BK160.out 3).trans rfl
          have hcz45_4 : w6.cell? ⟨gb160, 4, none⟩ = some (.int .i32 a0_4) := (blk_cell BK160.out 4).trans rfl
          have hfz45_0 := blk_frozen BK160.out 0
          have hfz45_1 := blk_frozen BK160.out 1
          have hfz45_2 := blk_frozen BK160.out 2
          have hfz45_3 := blk_frozen BK160.out 3
          have hfz45_4 := blk_frozen BK160.out 4
          go_wp2_with (first | ((with_reducible refine gate_dst (N := 47) rfl ?_); (try (refine gate_guard (by rfl) ?_; dsimp only)); refine Kd.R_lit (Kd.int .i64) _ 3 ?hg (N := 47) ?hd (xs := ([1, 4, 8] : List Int)) (inner := [.int .i64 1, .int .i64 4, .int .i64 8]) (ok := fun _ => True) (okp := fun _ => True) ?hr ?hp (fun _ hk => hk) trivial (Below.refl _ _) (Nat.le_refl _) (by simp) ?_; (case hd => rfl); (case hg => rfl); (case hr => first | (go_simp; done) | (go_simp; rfl)); (case hp => exact (Reps.one (show Kd.M (Kd.int .i64) _ _ _ 1 [.int .i64 1] from rfl) (Reps.one (show Kd.M (Kd.int .i64) _ _ _ 4 [.int .i64 4] from rfl) (Reps.one (show Kd.M (Kd.int .i64) _ _ _ 8 [.int .i64 8] from rfl) (Reps.none _ _))))); intro v165 w46 ho47 hb hg_ hnew_; clear hg_ hnew_; (first | rw [← Ny164.out] at ho47 | (simp only [Int.reduceToNat] at ho47; rw [← Ny164.out] at ho47)); have n0_ := am (Kd.R_lower ho47 (below_size (by repeat (first | exact HB.out | apply pb | apply pa | apply pd | refine below_set ?_ GE160.out)))); have n1_ := am (blk_below (g := gb160) (o := .cells #[.int .u8 a0_0, .int .u8 a0_1, .int .u8 a0_2, .int .i16 a0_3, .int .i32 a0_4] 24 (0, 0)) (by first | exact BK160.out | exact blk_drewN BK160.out _) hb); have n2_ := am (below_step (by repeat (first | exact HB.out | apply pb | apply pa | apply pd | refine below_set ?_ GE160.out)) hb); clear BK160; clear HB; have HO166 := n0_; have BK160 := n1_; have HB := n2_; clear n0_ n1_ n2_; clear hb ho47; obtain ⟨Ao48, co48, eo48⟩ := Kd.R_slice HO166.out; subst eo48) | (go_at_call 53; (with_reducible refine (insn_uses.calls k a0_0 a0_1 a0_2 a0_3 a0_4 _ _ y164 false _ ?side1 ?side2 A38.out).mono ?_); (case side1 => repeat (first | exact (Kd.R_reads' HO166.out).2.2 | (with_reducible refine Kd.C_alloc ?_ _) | (with_reducible refine Kd.C_drewN ?_ _) | (with_reducible refine Kd.C_drew ?_))); (case side2 => exact (Kd.R_reads' HO166.out).2.1); rintro e w49 ⟨rfl, hb⟩; have n0_ := am (Kd.R_below (by (with_reducible repeat (first | apply Kd.R_alloc | apply Kd.R_drewN | apply Kd.R_drew)); exact HO166.out) hb); have n1_ := am (blk_below (g := gb160) (o := .cells #[.int .u8 a0_0, .int .u8 a0_1, .int .u8 a0_2, .int .i16 a0_3, .int .i32 a0_4] 24 (0, 0)) (by first | exact BK160.out | exact blk_drewN BK160.out _) hb); have n2_ := am (below_step (by repeat (first | exact HB.out | apply pb | apply pa | apply pd | refine below_set ?_ GE160.out)) hb); clear HO166; clear BK160; clear HB; have HO166 := n0_; have BK160 := n1_; have HB := n2_; clear n0_ n1_ n2_; (try clear hb); (try clear hb2); (try clear hk); (try clear hi)))
          repeat (go_quiet (first | ((with_reducible refine gate_dst (N := 47) rfl ?_); (try (refine gate_guard (by rfl) ?_; dsimp only)); refine Kd.R_lit (Kd.int .i64) _ 3 ?hg (N := 47) ?hd (xs := ([1, 4, 8] : List Int)) (inner := [.int .i64 1, .int .i64 4, .int .i64 8]) (ok := fun _ => True) (okp := fun _ => True) ?hr ?hp (fun _ hk => hk) trivial (Below.refl _ _) (Nat.le_refl _) (by simp) ?_; (case hd => rfl); (case hg => rfl); (case hr => first | (go_simp; done) | (go_simp; rfl)); (case hp => exact (Reps.one (show Kd.M (Kd.int .i64) _ _ _ 1 [.int .i64 1] from rfl) (Reps.one (show Kd.M (Kd.int .i64) _ _ _ 4 [.int .i64 4] from rfl) (Reps.one (show Kd.M (Kd.int .i64) _ _ _ 8 [.int .i64 8] from rfl) (Reps.none _ _))))); intro v165 w46 ho47 hb hg_ hnew_; clear hg_ hnew_; (first | rw [← Ny164.out] at ho47 | (simp only [Int.reduceToNat] at ho47; rw [← Ny164.out] at ho47)); have n0_ := am (Kd.R_lower ho47 (below_size (by repeat (first | exact HB.out | apply pb | apply pa | apply pd | refine below_set ?_ GE160.out)))); have n1_ := am (blk_below (g := gb160) (o := .cells #[.int .u8 a0_0, .int .u8 a0_1, .int .u8 a0_2, .int .i16 a0_3, .int .i32 a0_4] 24 (0, 0)) (by first | exact BK160.out | exact blk_drewN BK160.out _) hb); have n2_ := am (below_step (by repeat (first | exact HB.out | apply pb | apply pa | apply pd | refine below_set ?_ GE160.out)) hb); clear BK160; clear HB; have HO166 := n0_; have BK160 := n1_; have HB := n2_; clear n0_ n1_ n2_; clear hb ho47; obtain ⟨Ao48, co48, eo48⟩ := Kd.R_slice HO166.out; subst eo48) | (go_at_call 53; (with_reducible refine (insn_uses.calls k a0_0 a0_1 a0_2 a0_3 a0_4 _ _ y164 false _ ?side1 ?side2 A38.out).mono ?_); (case side1 => repeat (first | exact (Kd.R_reads' HO166.out).2.2 | (with_reducible refine Kd.C_alloc ?_ _) | (with_reducible refine Kd.C_drewN ?_ _) | (with_reducible refine Kd.C_drew ?_))); (case side2 => exact (Kd.R_reads' HO166.out).2.1); rintro e w49 ⟨rfl, hb⟩; have n0_ := am (Kd.R_below (by (with_reducible repeat (first | apply Kd.R_alloc | apply Kd.R_drewN | apply Kd.R_drew)); exact HO166.out) hb); have n1_ := am (blk_below (g := gb160) (o := .cells #[.int .u8 a0_0, .int .u8 a0_1, .int .u8 a0_2, .int .i16 a0_3, .int .i32 a0_4] 24 (0, 0)) (by first | exact BK160.out | exact blk_drewN BK160.out _) hb); have n2_ := am (below_step (by repeat (first | exact HB.out | apply pb | apply pa | apply pd | refine below_set ?_ GE160.out)) hb); clear HO166; clear BK160; clear HB; have HO166 := n0_; have BK160 := n1_; have HB := n2_; clear n0_ n1_ n2_; (try clear hb); (try clear hb2); (try clear hk); (try clear hi))); try go_wp2_with (first | ((with_reducible refine gate_dst (N := 47) rfl ?_); (try (refine gate_guard (by rfl) ?_; dsimp only)); refine Kd.R_lit (Kd.int .i64) _ 3 ?hg (N := 47) ?hd (xs := ([1, 4, 8] : List Int)) (inner := [.int .i64 1, .int .i64 4, .int .i64 8]) (ok := fun _ => True) (okp := fun _ => True) ?hr ?hp (fun _ hk => hk) trivial (Below.refl _ _) (Nat.le_refl _) (by simp) ?_; (case hd => rfl); (case hg => rfl); (case hr => first | (go_simp; done) | (go_simp; rfl)); (case hp => exact (Reps.one (show Kd.M (Kd.int .i64) _ _ _ 1 [.int .i64 1] from rfl) (Reps.one (show Kd.M (Kd.int .i64) _ _ _ 4 [.int .i64 4] from rfl) (Reps.one (show Kd.M (Kd.int .i64) _ _ _ 8 [.int .i64 8] from rfl) (Reps.none _ _))))); intro v165 w46 ho47 hb hg_ hnew_; clear hg_ hnew_; (first | rw [← Ny164.out] at ho47 | (simp only [Int.reduceToNat] at ho47; rw [← Ny164.out] at ho47)); have n0_ := am (Kd.R_lower ho47 (below_size (by repeat (first | exact HB.out | apply pb | apply pa | apply pd | refine below_set ?_ GE160.out)))); have n1_ := am (blk_below (g := gb160) (o := .cells #[.int .u8 a0_0, .int .u8 a0_1, .int .u8 a0_2, .int .i16 a0_3, .int .i32 a0_4] 24 (0, 0)) (by first | exact BK160.out | exact blk_drewN BK160.out _) hb); have n2_ := am (below_step (by repeat (first | exact HB.out | apply pb | apply pa | apply pd | refine below_set ?_ GE160.out)) hb); clear BK160; clear HB; have HO166 := n0_; have BK160 := n1_; have HB := n2_; clear n0_ n1_ n2_; clear hb ho47; obtain ⟨Ao48, co48, eo48⟩ := Kd.R_slice HO166.out; subst eo48) | (go_at_call 53; (with_reducible refine (insn_uses.calls k a0_0 a0_1 a0_2 a0_3 a0_4 _ _ y164 false _ ?side1 ?side2 A38.out).mono ?_); (case side1 => repeat (first | exact (Kd.R_reads' HO166.out).2.2 | (with_reducible refine Kd.C_alloc ?_ _) | (with_reducible refine Kd.C_drewN ?_ _) | (with_reducible refine Kd.C_drew ?_))); (case side2 => exact (Kd.R_reads' HO166.out).2.1); rintro e w49 ⟨rfl, hb⟩; have n0_ := am (Kd.R_below (by (with_reducible repeat (first | apply Kd.R_alloc | apply Kd.R_drewN | apply Kd.R_drew)); exact HO166.out) hb); have n1_ := am (blk_below (g := gb160) (o := .cells #[.int .u8 a0_0, .int .u8 a0_1, .int .u8 a0_2, .int .i16 a0_3, .int .i32 a0_4] 24 (0, 0)) (by first | exact BK160.out | exact blk_drewN BK160.out _) hb); have n2_ := am (below_step (by repeat (first | exact HB.out | apply pb | apply pa | apply pd | refine below_set ?_ GE160.out)) hb); clear HO166; clear BK160; clear HB; have HO166 := n0_; have BK160 := n1_; have HB := n2_; clear n0_ n1_ n2_; (try clear hb); (try clear hb2); (try clear hk); (try clear hi))))
          go_ret
          exact ⟨by first | rfl | (simp [errW_none, errW_some] <;> rfl) | (simp [*, errW_none, errW_some] <;> rfl), by repeat (first | (with_reducible first | exact HB.out | apply below_alloc | apply pw_below_drewN | apply below_drew1 | refine below_set ?_ GE160.out) | exact HB.out)⟩
        ·rw [if_neg c37] at H
         have c37b0 : ((Go.bits .and .u8 a0_0 224) == 96) = false := beq_eq_false_iff_ne.mpr c37
         have c37b1 : ((Go.bits .and .u8 a0_0 224) != 96) = true := bne_iff_ne.mpr c37
         obtain rfl := Option.some.inj H
         go_wp2
         repeat (go_quiet (fail); try go_wp2)
         go_ret
         exact ⟨by first | rfl | (simp [errW_none, errW_some] <;> rfl) | (simp [*, errW_none, errW_some] <;> rfl), by repeat (first | (with_reducible first | exact HB.out | apply below_alloc | apply pw_below_drewN | apply below_drew1 | refine below_set ?_ GE160.out) | exact HB.out)⟩
       ·rw [if_neg c36] at H
        have c36b0 : (t161 == 2) = false := beq_eq_false_iff_ne.mpr c36
        have c36b1 : (t161 != 2) = true := bne_iff_ne.mpr c36
        by_cases c50 : t161 = 3
        ·rw [if_pos c50] at H
         have c50b0 : (t161 == 3) = true := beq_iff_eq.mpr c50
         have c50b1 : (t161 != 3) = false := bne_eq_false_iff_eq.mpr c50
         clear c50
         have HC51 := am H
         clear H
         go_upto_region 17 with (fail)
         repeat (go_quiet (fail); go_upto_region 17 with (fail))
         go_cut [3, 4, 55] (fun v3 v4 v55 wc => ∃ (kq : Nat) (x55_50 : Bool), v55 = .bool x55_50 ∧ Aside0 (insn_Kind.j2 kq x55_50 = some r) ∧ Aside0 (kq ≤ k) ∧ Aside0 (wc.heap[gb160]? = some (.cells #[.int .u8 a0_0, .int .u8 a0_1, .int .u8 a0_2, .int .i16 a0_3, .int .i32 a0_4] 24 (0, 0))) ∧ Aside0 (Below w.heap.size w wc))
         case first =>
          have H := HC51.out
          clear HC51
          by_cases c52 : (Go.bits .and .u8 a0_0 224) = 96
          ·rw [if_pos c52] at H
           have c52b0 : ((Go.bits .and .u8 a0_0 224) == 96) = true := beq_iff_eq.mpr c52
           have c52b1 : ((Go.bits .and .u8 a0_0 224) != 96) = false := bne_eq_false_iff_eq.mpr c52
           clear c52

           obtain ⟨y177, hy177⟩ : ∃ y_ : List Int, y_ = (([1, 2, 4] : List Int)) := ⟨_, rfl⟩
           replace H : ((insn_uses.f k a0_0 a0_1 a0_2 a0_3 a0_4 y177).bind fun t180 => (insn_Kind.j2 k t180)) = some r := by first | (rw [hy177]; with_reducible exact H) | (have H2_ := (Option.bind_some _ _).symm.trans H; rw [hy177]; with_reducible exact H2_) | (have H2_ := (Option.bind_some _ _).symm.trans H; with_reducible exact H2_) | with_reducible exact H | (rw [hy177]; exact H) | exact H
           have Ny177 := am hy177
           clear hy177
           replace H := Option.bind_eq_some_iff.mp H
           obtain ⟨t180, A530, H⟩ := H
           try dsimp only at H
           have A53 := am A530
           clear A530
           have H' := am H
           clear H
           have hcz54_0 : w6.cell? ⟨gb160, 0, none⟩ = some (.int .u8 a0_0) := (blk_cell BK160.out 0).trans rfl
           have hcz54_1 : w6.cell? ⟨gb160, 1, none⟩ = some (.int .u8 a0_1) := (blk_cell BK160.out 1).trans rfl
           have hcz54_2 : w6.cell? ⟨gb160, 2, none⟩ = some (.int .u8 a0_2) := (blk_cell BK160.out 2).trans rfl
           have hcz54_3 : w6.cell? ⟨gb160, 3, none⟩ = some (.int .i16 a0_3) := (blk_cell BK160.out 3).trans rfl
           have hcz54_4 : w6.cell? ⟨gb160, 4, none⟩ = some (.int .i32 a0_4) := (blk_cell BK160.out 4).trans rfl
           have hfz54_0 := blk_frozen BK160.out 0
           have hfz54_1 := blk_frozen BK160.out 1
           have hfz54_2 := blk_frozen BK160.out 2
           have hfz54_3 := blk_frozen BK160.out 3
           have hfz54_4 := blk_frozen BK160.out 4
           go_wp2_with (first | ((with_reducible refine gate_dst (N := 53) rfl ?_); (try (refine gate_guard (by rfl) ?_; dsimp only)); refine Kd.R_lit (Kd.int .i64) _ 3 ?hg (N := 53) ?hd (xs := ([1, 2, 4] : List Int)) (inner := [.int .i64 1, .int .i64 2, .int .i64 4]) (ok := fun _ => True) (okp := fun _ => True) ?hr ?hp (fun _ hk => hk) trivial (Below.refl _ _) (Nat.le_refl _) (by simp) ?_; (case hd => rfl); (case hg => rfl); (case hr => first | (go_simp; done) | (go_simp; rfl)); (case hp => exact (Reps.one (show Kd.M (Kd.int .i64) _ _ _ 1 [.int .i64 1] from rfl) (Reps.one (show Kd.M (Kd.int .i64) _ _ _ 2 [.int .i64 2] from rfl) (Reps.one (show Kd.M (Kd.int .i64) _ _ _ 4 [.int .i64 4] from rfl) (Reps.none _ _))))); intro v178 w55 ho56 hb hg_ hnew_; clear hg_ hnew_; (first | rw [← Ny177.out] at ho56 | (simp only [Int.reduceToNat] at ho56; rw [← Ny177.out] at ho56)); have n0_ := am (Kd.R_lower ho56 (below_size (by repeat (first | exact HB.out | apply pb | apply pa | apply pd | refine below_set ?_ GE160.out)))); have n1_ := am (blk_below (g := gb160) (o := .cells #[.int .u8 a0_0, .int .u8 a0_1, .int .u8 a0_2, .int .i16 a0_3, .int .i32 a0_4] 24 (0, 0)) (by first | exact BK160.out | exact blk_drewN BK160.out _) hb); have n2_ := am (below_step (by repeat (first | exact HB.out | apply pb | apply pa | apply pd | refine below_set ?_ GE160.out)) hb); clear BK160; clear HB; have HO179 := n0_; have BK160 := n1_; have HB := n2_; clear n0_ n1_ n2_; clear hb ho56; obtain ⟨Ao57, co57, eo57⟩ := Kd.R_slice HO179.out; subst eo57) | (go_at_call 53; (with_reducible refine (insn_uses.calls k a0_0 a0_1 a0_2 a0_3 a0_4 _ _ y177 t180 _ ?side1 ?side2 A53.out).mono ?_); (case side1 => repeat (first | exact (Kd.R_reads' HO179.out).2.2 | (with_reducible refine Kd.C_alloc ?_ _) | (with_reducible refine Kd.C_drewN ?_ _) | (with_reducible refine Kd.C_drew ?_))); (case side2 => exact (Kd.R_reads' HO179.out).2.1); rintro e w58 ⟨rfl, hb⟩; have n0_ := am (Kd.R_below (by (with_reducible repeat (first | apply Kd.R_alloc | apply Kd.R_drewN | apply Kd.R_drew)); exact HO179.out) hb); have n1_ := am (blk_below (g := gb160) (o := .cells #[.int .u8 a0_0, .int .u8 a0_1, .int .u8 a0_2, .int .i16 a0_3, .int .i32 a0_4] 24 (0, 0)) (by first | exact BK160.out | exact blk_drewN BK160.out _) hb); have n2_ := am (below_step (by repeat (first | exact HB.out | apply pb | apply pa | apply pd | refine below_set ?_ GE160.out)) hb); clear HO179; clear BK160; clear HB; have HO179 := n0_; have BK160 := n1_; have HB := n2_; clear n0_ n1_ n2_; (try clear hb); (try clear hb2); (try clear hk); (try clear hi)))
           repeat (go_quiet (first | ((with_reducible refine gate_dst (N := 53) rfl ?_); (try (refine gate_guard (by rfl) ?_; dsimp only)); refine Kd.R_lit (Kd.int .i64) _ 3 ?hg (N := 53) ?hd (xs := ([1, 2, 4] : List Int)) (inner := [.int .i64 1, .int .i64 2, .int .i64 4]) (ok := fun _ => True) (okp := fun _ => True) ?hr ?hp (fun _ hk => hk) trivial (Below.refl _ _) (Nat.le_refl _) (by simp) ?_; (case hd => rfl); (case hg => rfl); (case hr => first | (go_simp; done) | (go_simp; rfl)); (case hp => exact (Reps.one (show Kd.M (Kd.int .i64) _ _ _ 1 [.int .i64 1] from rfl) (Reps.one (show Kd.M (Kd.int .i64) _ _ _ 2 [.int .i64 2] from rfl) (Reps.one (show Kd.M (Kd.int .i64) _ _ _ 4 [.int .i64 4] from rfl) (Reps.none _ _))))); intro v178 w55 ho56 hb hg_ hnew_; clear hg_ hnew_; (first | rw [← Ny177.out] at ho56 | (simp only [Int.reduceToNat] at ho56; rw [← Ny177.out] at ho56)); have n0_ := am (Kd.R_lower ho56 (below_size (by repeat (first | exact HB.out | apply pb | apply pa | apply pd | refine below_set ?_ GE160.out)))); have n1_ := am (blk_below (g := gb160) (o := .cells #[.int .u8 a0_0, .int .u8 a0_1, .int .u8 a0_2, .int .i16 a0_3, .int .i32 a0_4] 24 (0, 0)) (by first | exact BK160.out | exact blk_drewN BK160.out _) hb); have n2_ := am (below_step (by repeat (first | exact HB.out | apply pb | apply pa | apply pd | refine below_set ?_ GE160.out)) hb); clear BK160; clear HB; have HO179 := n0_; have BK160 := n1_; have HB := n2_; clear n0_ n1_ n2_; clear hb ho56; obtain ⟨Ao57, co57, eo57⟩ := Kd.R_slice HO179.out; subst eo57) | (go_at_call 53; (with_reducible refine (insn_uses.calls k a0_0 a0_1 a0_2 a0_3 a0_4 _ _ y177 t180 _ ?side1 ?side2 A53.out).mono ?_); (case side1 => repeat (first | exact (Kd.R_reads' HO179.out).2.2 | (with_reducible refine Kd.C_alloc ?_ _) | (with_reducible refine Kd.C_drewN ?_ _) | (with_reducible refine Kd.C_drew ?_))); (case side2 => exact (Kd.R_reads' HO179.out).2.1); rintro e w58 ⟨rfl, hb⟩; have n0_ := am (Kd.R_below (by (with_reducible repeat (first | apply Kd.R_alloc | apply Kd.R_drewN | apply Kd.R_drew)); exact HO179.out) hb); have n1_ := am (blk_below (g := gb160) (o := .cells #[.int .u8 a0_0, .int .u8 a0_1, .int .u8 a0_2, .int .i16 a0_3, .int .i32 a0_4] 24 (0, 0)) (by first | exact BK160.out | exact blk_drewN BK160.out _) hb); have n2_ := am (below_step (by repeat (first | exact HB.out | apply pb | apply pa | apply pd | refine below_set ?_ GE160.out)) hb); clear HO179; clear BK160; clear HB; have HO179 := n0_; have BK160 := n1_; have HB := n2_; clear n0_ n1_ n2_; (try clear hb); (try clear hb2); (try clear hk); (try clear hi))); try go_wp2_with (first | ((with_reducible refine gate_dst (N := 53) rfl ?_); (try (refine gate_guard (by rfl) ?_; dsimp only)); refine Kd.R_lit (Kd.int .i64) _ 3 ?hg (N := 53) ?hd (xs := ([1, 2, 4] : List Int)) (inner := [.int .i64 1, .int .i64 2, .int .i64 4]) (ok := fun _ => True) (okp := fun _ => True) ?hr ?hp (fun _ hk => hk) trivial (Below.refl _ _) (Nat.le_refl _) (by simp) ?_; (case hd => rfl); (case hg => rfl); (case hr => first | (go_simp; done) | (go_simp; rfl)); (case hp => exact (Reps.one (show Kd.M (Kd.int .i64) _ _ _ 1 [.int .i64 1] from rfl) (Reps.one (show Kd.M (Kd.int .i64) _ _ _ 2 [.int .i64 2] from rfl) (Reps.one (show Kd.M (Kd.int .i64) _ _ _ 4 [.int .i64 4] from rfl) (Reps.none _ _))))); intro v178 w55 ho56 hb hg_ hnew_; clear hg_ hnew_; (first | rw [← Ny177.out] at ho56 | (simp only [Int.reduceToNat] at ho56; rw [← Ny177.out] at ho56)); have n0_ := am (Kd.R_lower ho56 (below_size (by repeat (first | exact HB.out | apply pb | apply pa | apply pd | refine below_set ?_ GE160.out)))); have n1_ := am (blk_below (g := gb160) (o := .cells #[.int .u8 a0_0, .int .u8 a0_1, .int .u8 a0_2, .int .i16 a0_3, .int .i32 a0_4] 24 (0, 0)) (by first | exact BK160.out | exact blk_drewN BK160.out _) hb); have n2_ := am (below_step (by repeat (first | exact HB.out | apply pb | apply pa | apply pd | refine below_set ?_ GE160.out)) hb); clear BK160; clear HB; have HO179 := n0_; have BK160 := n1_; have HB := n2_; clear n0_ n1_ n2_; clear hb ho56; obtain ⟨Ao57, co57, eo57⟩ := Kd.R_slice HO179.out; subst eo57) | (go_at_call 53; (with_reducible refine (insn_uses.calls k a0_0 a0_1 a0_2 a0_3 a0_4 _ _ y177 t180 _ ?side1 ?side2 A53.out).mono ?_); (case side1 => repeat (first | exact (Kd.R_reads' HO179.out).2.2 | (with_reducible refine Kd.C_alloc ?_ _) | (with_reducible refine Kd.C_drewN ?_ _) | (with_reducible refine Kd.C_drew ?_))); (case side2 => exact (Kd.R_reads' HO179.out).2.1); rintro e w58 ⟨rfl, hb⟩; have n0_ := am (Kd.R_below (by (with_reducible repeat (first | apply Kd.R_alloc | apply Kd.R_drewN | apply Kd.R_drew)); exact HO179.out) hb); have n1_ := am (blk_below (g := gb160) (o := .cells #[.int .u8 a0_0, .int .u8 a0_1, .int .u8 a0_2, .int .i16 a0_3, .int .i32 a0_4] 24 (0, 0)) (by first | exact BK160.out | exact blk_drewN BK160.out _) hb); have n2_ := am (below_step (by repeat (first | exact HB.out | apply pb | apply pa | apply pd | refine below_set ?_ GE160.out)) hb); clear HO179; clear BK160; clear HB; have HO179 := n0_; have BK160 := n1_; have HB := n2_; clear n0_ n1_ n2_; (try clear hb); (try clear hb2); (try clear hk); (try clear hi))))
           go_meet
           case rel => exact ⟨_, (t180), (by first | rfl | (simp; done) | (simp [*]; done)), H', ⟨by first | omega | exact Nat.le_refl _⟩, ⟨by (with_reducible repeat (first | refine blk_drewN ?_ _ | refine blk_drew ?_ | refine blk_alloc ?_ _)); exact BK160.out⟩, ⟨by repeat (first | (with_reducible first | exact HB.out | apply below_alloc | apply pw_below_drewN | apply below_drew1 | refine below_set ?_ GE160.out) | exact HB.out)⟩⟩
          ·rw [if_neg c52] at H
           have c52b0 : ((Go.bits .and .u8 a0_0 224) == 96) = false := beq_eq_false_iff_ne.mpr c52
           have c52b1 : ((Go.bits .and .u8 a0_0 224) != 96) = true := bne_iff_ne.mpr c52

           have H' := am H
           clear H
           go_wp2
           repeat (go_quiet (fail); try go_wp2)
           go_meet
           case rel => exact ⟨_, (false), (by first | rfl | (simp; done) | (simp [*]; done)), H', ⟨by first | omega | exact Nat.le_refl _⟩, ⟨by (with_reducible repeat (first | refine blk_drewN ?_ _ | refine blk_drew ?_ | refine blk_alloc ?_ _)); exact BK160.out⟩, ⟨by repeat (first | (with_reducible first | exact HB.out | apply below_alloc | apply pw_below_drewN | apply below_drew1 | refine below_set ?_ GE160.out) | exact HB.out)⟩⟩
         case rest =>
          clear HC51
          try clear c1
          try clear c2
          try clear p2
          try clear c3
          try clear c5
          try clear c7
          try clear c7b0
          try clear c7b1
          try clear c8
          try clear c8b0
          try clear c8b1
          try clear c9
          try clear c9b0
          try clear c9b1
          try clear c10
          try clear c10b0
          try clear c10b1
          try clear c12
          try clear c17
          try clear c17b0
          try clear c17b1
          try clear c18
          try clear c18b0
          try clear c18b1
          try clear c19
          try clear c20
          try clear c25
          try clear c25b0
          try clear c25b1
          try clear c27
          try clear c27b0
          try clear c27b1
          try clear c28
          try clear c28b0
          try clear c28b1
          try clear c35
          try clear c36
          try clear c36b0
          try clear c36b1
          try clear c37
          try clear c37b0
          try clear c37b1
          try clear c39
          try clear c50
          try clear c50b0
          try clear c50b1
          try clear c52
          try clear c52b0
          try clear c52b1
          try clear hcz13_0
          try clear hcz13_1
          try clear hcz13_2
          try clear hcz13_3
          try clear hcz13_4
          try clear hcz15_0
          try clear hcz15_1
          try clear hcz15_2
          try clear hcz15_3
          try clear hcz15_4
          try clear hcz21_0
          try clear hcz21_1
          try clear hcz21_2
          try clear hcz21_3
          try clear hcz21_4
          try clear hcz23_0
          try clear hcz23_1
          try clear hcz23_2
          try clear hcz23_3
          try clear hcz23_4
          try clear hcz30_0
          try clear hcz30_1
          try clear hcz30_2
          try clear hcz30_3
          try clear hcz30_4
          try clear hcz40_0
          try clear hcz40_1
          try clear hcz40_2
          try clear hcz40_3
          try clear hcz40_4
          try clear hcz45_0
          try clear hcz45_1
          try clear hcz45_2
          try clear hcz45_3
          try clear hcz45_4
          try clear hcz54_0
          try clear hcz54_1
          try clear hcz54_2
          try clear hcz54_3
          try clear hcz54_4
          try clear hcz5_0
          try clear hcz5_1
          try clear hcz5_2
          try clear hcz5_3
          try clear hcz5_4
          try clear hfz13_0
          try clear hfz13_1
          try clear hfz13_2
          try clear hfz13_3
          try clear hfz13_4
          try clear hfz15_0
          try clear hfz15_1
          try clear hfz15_2
          try clear hfz15_3
          try clear hfz15_4
          try clear hfz21_0
          try clear hfz21_1
          try clear hfz21_2
          try clear hfz21_3
          try clear hfz21_4
          try clear hfz23_0
          try clear hfz23_1
          try clear hfz23_2
          try clear hfz23_3
          try clear hfz23_4
          try clear hfz30_0
          try clear hfz30_1
          try clear hfz30_2
          try clear hfz30_3
          try clear hfz30_4
          try clear hfz40_0
          try clear hfz40_1
          try clear hfz40_2
          try clear hfz40_3
          try clear hfz40_4
          try clear hfz45_0
          try clear hfz45_1
          try clear hfz45_2
          try clear hfz45_3
          try clear hfz45_4
          try clear hfz54_0
          try clear hfz54_1
          try clear hfz54_2
          try clear hfz54_3
          try clear hfz54_4
          try clear hfz5_0
          try clear hfz5_1
          try clear hfz5_2
          try clear hfz5_3
          try clear hfz5_4
          try clear p2
          obtain ⟨kq, x55_50, rfl, HA, HJ50, BK160, HB⟩ := hcut
          cases kq with
          | zero => exact absurd HA.out (by simp [insn_Kind.j2])
          | succ kj50 =>
           have H := HA.out
           clear HA
           simp only [insn_Kind.j2] at H
           by_cases c59 : x55_50 = true
           ·subst c59
            have H1 : (some 4) = some r := by rw [if_pos rfl] at H; exact H
            clear H
            have H := H1
            clear H1
            obtain rfl := Option.some.inj H
            go_wp2
            repeat (go_quiet (fail); try go_wp2)
            go_ret
            exact ⟨by first | rfl | (simp [errW_none, errW_some] <;> rfl) | (simp [*, errW_none, errW_some] <;> rfl), by repeat (first | (with_reducible first | exact HB.out | apply below_alloc | apply pw_below_drewN | apply below_drew1 | refine below_set ?_ GE160.out) | exact HB.out)⟩
           ·replace c59 := Bool.eq_false_iff.mpr c59
            subst c59
            have H1 : (some 0) = some r := by rw [if_neg (show ¬ (false = true) by decide)] at H; exact H
            clear H
            have H := H1
            clear H1
            obtain rfl := Option.some.inj H
            go_wp2
            repeat (go_quiet (fail); try go_wp2)
            go_ret
            exact ⟨by first | rfl | (simp [errW_none, errW_some] <;> rfl) | (simp [*, errW_none, errW_some] <;> rfl), by repeat (first | (with_reducible first | exact HB.out | apply below_alloc | apply pw_below_drewN | apply below_drew1 | refine below_set ?_ GE160.out) | exact HB.out)⟩
        ·rw [if_neg c50] at H
         have c50b0 : (t161 == 3) = false := beq_eq_false_iff_ne.mpr c50
         have c50b1 : (t161 != 3) = true := bne_iff_ne.mpr c50
         by_cases c60 : a0_0 = 24
         ·rw [if_pos c60] at H
          have c60b0 : (a0_0 == 24) = true := beq_iff_eq.mpr c60
          have c60b1 : (a0_0 != 24) = false := bne_eq_false_iff_eq.mpr c60
          clear c60
          by_cases c61 : a0_1 = 10
          ·rw [if_pos c61] at H
           have c61b0 : (a0_1 == 10) = true := beq_iff_eq.mpr c61
           have c61b1 : (a0_1 != 10) = false := bne_eq_false_iff_eq.mpr c61
           clear c61
           obtain rfl := Option.some.inj H
           have hcz62_0 : w6.cell? ⟨gb160, 0, none⟩ = some (.int .u8 a0_0) := (blk_cell BK160.out 0).trans rfl
           have hcz62_1 : w6.cell? ⟨gb160, 1, none⟩ = some (.int .u8 a0_1) := (blk_cell BK160.out 1).trans rfl
           have hcz62_2 : w6.cell? ⟨gb160, 2, none⟩ = some (.int .u8 a0_2) := (blk_cell BK160.out 2).trans rfl
           have hcz62_3 : w6.cell? ⟨gb160, 3, none⟩ = some (.int .i16 a0_3) := (blk_cell BK160.out 3).trans rfl
           have hcz62_4 : w6.cell? ⟨gb160, 4, none⟩ = some (.int .i32 a0_4) := (blk_cell BK160.out 4).trans rfl
           have hfz62_0 := blk_frozen BK160.out 0
           have hfz62_1 := blk_frozen BK160.out 1
           have hfz62_2 := blk_frozen BK160.out 2
           have hfz62_3 := blk_frozen BK160.out 3
           have hfz62_4 := blk_frozen BK160.out 4
           go_wp2
           repeat (go_quiet (fail); try go_wp2)
           go_ret
           exact ⟨by first | rfl | (simp [errW_none, errW_some] <;> rfl) | (simp [*, errW_none, errW_some] <;> rfl), by repeat (first | (with_reducible first | exact HB.out | apply below_alloc | apply pw_below_drewN | apply below_drew1 | refine below_set ?_ GE160.out) | exact HB.out)⟩
          ·rw [if_neg c61] at H
           have c61b0 : (a0_1 == 10) = false := beq_eq_false_iff_ne.mpr c61
           have c61b1 : (a0_1 != 10) = true := bne_iff_ne.mpr c61
           by_cases c63 : a0_2 ≤ 2
           ·rw [if_pos c63] at H
            have c63b0 : decide (a0_2 ≤ 2) = true := decide_eq_true c63
            clear c63
            obtain ⟨y168, hy168⟩ : ∃ y_ : List Int, y_ = (([1, 2, 8] : List Int)) := ⟨_, rfl⟩
            replace H : ((insn_uses.f k a0_0 a0_1 a0_2 a0_3 a0_4 y168).bind fun t171 => (if t171 = true then (some 9) else (some 0))) = some r := by first | (rw [hy168]; with_reducible exact H) | (have H2_ := (Option.bind_some _ _).symm.trans H; rw [hy168]; with_reducible exact H2_) | (have H2_ := (Option.bind_some _ _).symm.trans H; with_reducible exact H2_) | with_reducible exact H | (rw [hy168]; exact H) | exact H
            have Ny168 := am hy168
            clear hy168
            replace H := Option.bind_eq_some_iff.mp H
            obtain ⟨t171, A640, H⟩ := H
            try dsimp only at H
            have A64 := am A640
            clear A640
            by_cases c65 : t171 = true
            ·subst c65
             have H1 : (some 9) = some r := by rw [if_pos rfl] at H; exact H
             clear H
             have H := H1
             clear H1
             obtain rfl := Option.some.inj H
             have hcz66_0 : w6.cell? ⟨gb160, 0, none⟩ = some (.int .u8 a0_0) := (blk_cell BK160.out 0).trans rfl
             have hcz66_1 : w6.cell? ⟨gb160, 1, none⟩ = some (.int .u8 a0_1) := (blk_cell BK160.out 1).trans rfl
             have hcz66_2 : w6.cell? ⟨gb160, 2, none⟩ = some (.int .u8 a0_2) := (blk_cell BK160.out 2).trans rfl
             have hcz66_3 : w6.cell? ⟨gb160, 3, none⟩ = some (.int .i16 a0_3) := (blk_cell BK160.out 3).trans rfl
             have hcz66_4 : w6.cell? ⟨gb160, 4, none⟩ = some (.int .i32 a0_4) := (blk_cell BK160.out 4).trans rfl
             have hfz66_0 := blk_frozen BK160.out 0
             have hfz66_1 := blk_frozen BK160.out 1
             have hfz66_2 := blk_frozen BK160.out 2
             have hfz66_3 := blk_frozen BK160.out 3
             have hfz66_4 := blk_frozen BK160.out 4
             go_wp2_with (first | ((with_reducible refine gate_dst (N := 69) rfl ?_); (try (refine gate_guard (by rfl) ?_; dsimp only)); refine Kd.R_lit (Kd.int .i64) _ 3 ?hg (N := 69) ?hd (xs := ([1, 2, 8] : List Int)) (inner := [.int .i64 1, .int .i64 2, .int .i64 8]) (ok := fun _ => True) (okp := fun _ => True) ?hr ?hp (fun _ hk => hk) trivial (Below.refl _ _) (Nat.le_refl _) (by simp) ?_; (case hd => rfl); (case hg => rfl); (case hr => first | (go_simp; done) | (go_simp; rfl)); (case hp => exact (Reps.one (show Kd.M (Kd.int .i64) _ _ _ 1 [.int .i64 1] from rfl) (Reps.one (show Kd.M (Kd.int .i64) _ _ _ 2 [.int .i64 2] from rfl) (Reps.one (show Kd.M (Kd.int .i64) _ _ _ 8 [.int .i64 8] from rfl) (Reps.none _ _))))); intro v169 w67 ho68 hb hg_ hnew_; clear hg_ hnew_; (first | rw [← Ny168.out] at ho68 | (simp only [Int.reduceToNat] at ho68; rw [← Ny168.out] at ho68)); have n0_ := am (Kd.R_lower ho68 (below_size (by repeat (first | exact HB.out | apply pb | apply pa | apply pd | refine below_set ?_ GE160.out)))); have n1_ := am (blk_below (g := gb160) (o := .cells #[.int .u8 a0_0, .int .u8 a0_1, .int .u8 a0_2, .int .i16 a0_3, .int .i32 a0_4] 24 (0, 0)) (by first | exact BK160.out | exact blk_drewN BK160.out _) hb); have n2_ := am (below_step (by repeat (first | exact HB.out | apply pb | apply pa | apply pd | refine below_set ?_ GE160.out)) hb); clear BK160; clear HB; have HO170 := n0_; have BK160 := n1_; have HB := n2_; clear n0_ n1_ n2_; clear hb ho68; obtain ⟨Ao69, co69, eo69⟩ := Kd.R_slice HO170.out; subst eo69) | (go_at_call 53; (with_reducible refine (insn_uses.calls k a0_0 a0_1 a0_2 a0_3 a0_4 _ _ y168 true _ ?side1 ?side2 A64.out).mono ?_); (case side1 => repeat (first | exact (Kd.R_reads' HO170.out).2.2 | (with_reducible refine Kd.C_alloc ?_ _) | (with_reducible refine Kd.C_drewN ?_ _) | (with_reducible refine Kd.C_drew ?_))); (case side2 => exact (Kd.R_reads' HO170.out).2.1); rintro e w70 ⟨rfl, hb⟩; have n0_ := am (Kd.R_below (by (with_reducible repeat (first | apply Kd.R_alloc | apply Kd.R_drewN | apply Kd.R_drew)); exact HO170.out) hb); have n1_ := am (blk_below (g := gb160) (o := .cells #[.int .u8 a0_0, .int .u8 a0_1, .int .u8 a0_2, .int .i16 a0_3, .int .i32 a0_4] 24 (0, 0)) (by first | exact BK160.out | exact blk_drewN BK160.out _) hb); have n2_ := am (below_step (by repeat (first | exact HB.out | apply pb | apply pa | apply pd | refine below_set ?_ GE160.out)) hb); clear HO170; clear BK160; clear HB; have HO170 := n0_; have BK160 := n1_; have HB := n2_; clear n0_ n1_ n2_; (try clear hb); (try clear hb2); (try clear hk); (try clear hi)))
             repeat (go_quiet (first | ((with_reducible refine gate_dst (N := 69) rfl ?_); (try (refine gate_guard (by rfl) ?_; dsimp only)); refine Kd.R_lit (Kd.int .i64) _ 3 ?hg (N := 69) ?hd (xs := ([1, 2, 8] : List Int)) (inner := [.int .i64 1, .int .i64 2, .int .i64 8]) (ok := fun _ => True) (okp := fun _ => True) ?hr ?hp (fun _ hk => hk) trivial (Below.refl _ _) (Nat.le_refl _) (by simp) ?_; (case hd => rfl); (case hg => rfl); (case hr => first | (go_simp; done) | (go_simp; rfl)); (case hp => exact (Reps.one (show Kd.M (Kd.int .i64) _ _ _ 1 [.int .i64 1] from rfl) (Reps.one (show Kd.M (Kd.int .i64) _ _ _ 2 [.int .i64 2] from rfl) (Reps.one (show Kd.M (Kd.int .i64) _ _ _ 8 [.int .i64 8] from rfl) (Reps.none _ _))))); intro v169 w67 ho68 hb hg_ hnew_; clear hg_ hnew_; (first | rw [← Ny168.out] at ho68 | (simp only [Int.reduceToNat] at ho68; rw [← Ny168.out] at ho68)); have n0_ := am (Kd.R_lower ho68 (below_size (by repeat (first | exact HB.out | apply pb | apply pa | apply pd | refine below_set ?_ GE160.out)))); have n1_ := am (blk_below (g := gb160) (o := .cells #[.int .u8 a0_0, .int .u8 a0_1, .int .u8 a0_2, .int .i16 a0_3, .int .i32 a0_4] 24 (0, 0)) (by first | exact BK160.out | exact blk_drewN BK160.out _) hb); have n2_ := am (below_step (by repeat (first | exact HB.out | apply pb | apply pa | apply pd | refine below_set ?_ GE160.out)) hb); clear BK160; clear HB; have HO170 := n0_; have BK160 := n1_; have HB := n2_; clear n0_ n1_ n2_; clear hb ho68; obtain ⟨Ao69, co69, eo69⟩ := Kd.R_slice HO170.out; subst eo69) | (go_at_call 53; (with_reducible refine (insn_uses.calls k a0_0 a0_1 a0_2 a0_3 a0_4 _ _ y168 true _ ?side1 ?side2 A64.out).mono ?_); (case side1 => repeat (first | exact (Kd.R_reads' HO170.out).2.2 | (with_reducible refine Kd.C_alloc ?_ _) | (with_reducible refine Kd.C_drewN ?_ _) | (with_reducible refine Kd.C_drew ?_))); (case side2 => exact (Kd.R_reads' HO170.out).2.1); rintro e w70 ⟨rfl, hb⟩; have n0_ := am (Kd.R_below (by (with_reducible repeat (first | apply Kd.R_alloc | apply Kd.R_drewN | apply Kd.R_drew)); exact HO170.out) hb); have n1_ := am (blk_below (g := gb160) (o := .cells #[.int .u8 a0_0, .int .u8 a0_1, .int .u8 a0_2, .int .i16 a0_3, .int .i32 a0_4] 24 (0, 0)) (by first | exact BK160.out | exact blk_drewN BK160.out _) hb); have n2_ := am (below_step (by repeat (first | exact HB.out | apply pb | apply pa | apply pd | refine below_set ?_ GE160.out)) hb); clear HO170; clear BK160; clear HB; have HO170 := n0_; have BK160 := n1_; have HB := n2_; clear n0_ n1_ n2_; (try clear hb); (try clear hb2); (try clear hk); (try clear hi))); try go_wp2_with (first | ((with_reducible refine gate_dst (N := 69) rfl ?_); (try (refine gate_guard (by rfl) ?_; dsimp only)); refine Kd.R_lit (Kd.int .i64) _ 3 ?hg (N := 69) ?hd (xs := ([1, 2, 8] : List Int)) (inner := [.int .i64 1, .int .i64 2, .int .i64 8]) (ok := fun _ => True) (okp := fun _ => True) ?hr ?hp (fun _ hk => hk) trivial (Below.refl _ _) (Nat.le_refl _) (by simp) ?_; (case hd => rfl); (case hg => rfl); (case hr => first | (go_simp; done) | (go_simp; rfl)); (case hp => exact (Reps.one (show Kd.M (Kd.int .i64) _ _ _ 1 [.int .i64 1] from rfl) (Reps.one (show Kd.M (Kd.int .i64) _ _ _ 2 [.int .i64 2] from rfl) (Reps.one (show Kd.M (Kd.int .i64) _ _ _ 8 [.int .i64 8] from rfl) (Reps.none _ _))))); intro v169 w67 ho68 hb hg_ hnew_; clear hg_ hnew_; (first | rw [← Ny168.out] at ho68 | (simp only [Int.reduceToNat] at ho68; rw [← Ny168.out] at ho68)); have n0_ := am (Kd.R_lower ho68 (below_size (by repeat (first | exact HB.out | apply pb | apply pa | apply pd | refine below_set ?_ GE160.out)))); have n1_ := am (blk_below (g := gb160) (o := .cells #[.int .u8 a0_0, .int .u8 a0_1, .int .u8 a0_2, .int .i16 a0_3, .int .i32 a0_4] 24 (0, 0)) (by first | exact BK160.out | exact blk_drewN BK160.out _) hb); have n2_ := am (below_step (by repeat (first | exact HB.out | apply pb | apply pa | apply pd | refine below_set ?_ GE160.out)) hb); clear BK160; clear HB; have HO170 := n0_; have BK160 := n1_; have HB := n2_; clear n0_ n1_ n2_; clear hb ho68; obtain ⟨Ao69, co69, eo69⟩ := Kd.R_slice HO170.out; subst eo69) | (go_at_call 53; (with_reducible refine (insn_uses.calls k a0_0 a0_1 a0_2 a0_3 a0_4 _ _ y168 true _ ?side1 ?side2 A64.out).mono ?_); (case side1 => repeat (first | exact (Kd.R_reads' HO170.out).2.2 | (with_reducible refine Kd.C_alloc ?_ _) | (with_reducible refine Kd.C_drewN ?_ _) | (with_reducible refine Kd.C_drew ?_))); (case side2 => exact (Kd.R_reads' HO170.out).2.1); rintro e w70 ⟨rfl, hb⟩; have n0_ := am (Kd.R_below (by (with_reducible repeat (first | apply Kd.R_alloc | apply Kd.R_drewN | apply Kd.R_drew)); exact HO170.out) hb); have n1_ := am (blk_below (g := gb160) (o := .cells #[.int .u8 a0_0, .int .u8 a0_1, .int .u8 a0_2, .int .i16 a0_3, .int .i32 a0_4] 24 (0, 0)) (by first | exact BK160.out | exact blk_drewN BK160.out _) hb); have n2_ := am (below_step (by repeat (first | exact HB.out | apply pb | apply pa | apply pd | refine below_set ?_ GE160.out)) hb); clear HO170; clear BK160; clear HB; have HO170 := n0_; have BK160 := n1_; have HB := n2_; clear n0_ n1_ n2_; (try clear hb); (try clear hb2); (try clear hk); (try clear hi))))
             go_ret
             exact ⟨by first | rfl | (simp [errW_none, errW_some] <;> rfl) | (simp [*, errW_none, errW_some] <;> rfl), by repeat (first | (with_reducible first | exact HB.out | apply below_alloc | apply pw_below_drewN | apply below_drew1 | refine below_set ?_ GE160.out) | exact HB.out)⟩
            ·replace c65 := Bool.eq_false_iff.mpr c65
             subst c65
             have H1 : (some 0) = some r := by rw [if_neg (show ¬ (false = true) by decide)] at H; exact H
             clear H
             have H := H1
             clear H1
             obtain rfl := Option.some.inj H
             have hcz71_0 : w6.cell? ⟨gb160, 0, none⟩ = some (.int .u8 a0_0) := (blk_cell BK160.out 0).trans rfl
             have hcz71_1 : w6.cell? ⟨gb160, 1, none⟩ = some (.int .u8 a0_1) := (blk_cell BK160.out 1).trans rfl
             have hcz71_2 : w6.cell? ⟨gb160, 2, none⟩ = some (.int .u8 a0_2) := (blk_cell BK160.out 2).trans rfl
             have hcz71_3 : w6.cell? ⟨gb160, 3, none⟩ = some (.int .i16 a0_3) := (blk_cell BK160.out 3).trans rfl
             have hcz71_4 : w6.cell? ⟨gb160, 4, none⟩ = some (.int .i32 a0_4) := (blk_cell BK160.out 4).trans rfl
             have hfz71_0 := blk_frozen BK160.out 0
             have hfz71_1 := blk_frozen BK160.out 1
             have hfz71_2 := blk_frozen BK160.out 2
             have hfz71_3 := blk_frozen BK160.out 3
             have hfz71_4 := blk_frozen BK160.out 4
             go_wp2_with (first | ((with_reducible refine gate_dst (N := 69) rfl ?_); (try (refine gate_guard (by rfl) ?_; dsimp only)); refine Kd.R_lit (Kd.int .i64) _ 3 ?hg (N := 69) ?hd (xs := ([1, 2, 8] : List Int)) (inner := [.int .i64 1, .int .i64 2, .int .i64 8]) (ok := fun _ => True) (okp := fun _ => True) ?hr ?hp (fun _ hk => hk) trivial (Below.refl _ _) (Nat.le_refl _) (by simp) ?_; (case hd => rfl); (case hg => rfl); (case hr => first | (go_simp; done) | (go_simp; rfl)); (case hp => exact (Reps.one (show Kd.M (Kd.int .i64) _ _ _ 1 [.int .i64 1] from rfl) (Reps.one (show Kd.M (Kd.int .i64) _ _ _ 2 [.int .i64 2] from rfl) (Reps.one (show Kd.M (Kd.int .i64) _ _ _ 8 [.int .i64 8] from rfl) (Reps.none _ _))))); intro v169 w72 ho73 hb hg_ hnew_; clear hg_ hnew_; (first | rw [← Ny168.out] at ho73 | (simp only [Int.reduceToNat] at ho73; rw [← Ny168.out] at ho73)); have n0_ := am (Kd.R_lower ho73 (below_size (by repeat (first | exact HB.out | apply pb | apply pa | apply pd | refine below_set ?_ GE160.out)))); have n1_ := am (blk_below (g := gb160) (o := .cells #[.int .u8 a0_0, .int .u8 a0_1, .int .u8 a0_2, .int .i16 a0_3, .int .i32 a0_4] 24 (0, 0)) (by first | exact BK160.out | exact blk_drewN BK160.out _) hb); have n2_ := am (below_step (by repeat (first | exact HB.out | apply pb | apply pa | apply pd | refine below_set ?_ GE160.out)) hb); clear BK160; clear HB; have HO170 := n0_; have BK160 := n1_; have HB := n2_; clear n0_ n1_ n2_; clear hb ho73; obtain ⟨Ao74, co74, eo74⟩ := Kd.R_slice HO170.out; subst eo74) | (go_at_call 53; (with_reducible refine (insn_uses.calls k a0_0 a0_1 a0_2 a0_3 a0_4 _ _ y168 false _ ?side1 ?side2 A64.out).mono ?_); (case side1 => repeat (first | exact (Kd.R_reads' HO170.out).2.2 | (with_reducible refine Kd.C_alloc ?_ _) | (with_reducible refine Kd.C_drewN ?_ _) | (with_reducible refine Kd.C_drew ?_))); (case side2 => exact (Kd.R_reads' HO170.out).2.1); rintro e w75 ⟨rfl, hb⟩; have n0_ := am (Kd.R_below (by (with_reducible repeat (first | apply Kd.R_alloc | apply Kd.R_drewN | apply Kd.R_drew)); exact HO170.out) hb); have n1_ := am (blk_below (g := gb160) (o := .cells #[.int .u8 a0_0, .int .u8 a0_1, .int .u8 a0_2, .int .i16 a0_3, .int .i32 a0_4] 24 (0, 0)) (by first | exact BK160.out | exact blk_drewN BK160.out _) hb); have n2_ := am (below_step (by repeat (first | exact HB.out | apply pb | apply pa | apply pd | refine below_set ?_ GE160.out)) hb); clear HO170; clear BK160; clear HB; have HO170 := n0_; have BK160 := n1_; have HB := n2_; clear n0_ n1_ n2_; (try clear hb); (try clear hb2); (try clear hk); (try clear hi)))
             repeat (go_quiet (first | ((with_reducible refine gate_dst (N := 69) rfl ?_); (try (refine gate_guard (by rfl) ?_; dsimp only)); refine Kd.R_lit (Kd.int .i64) _ 3 ?hg (N := 69) ?hd (xs := ([1, 2, 8] : List Int)) (inner := [.int .i64 1, .int .i64 2, .int .i64 8]) (ok := fun _ => True) (okp := fun _ => True) ?hr ?hp (fun _ hk => hk) trivial (Below.refl _ _) (Nat.le_refl _) (by simp) ?_; (case hd => rfl); (case hg => rfl); (case hr => first | (go_simp; done) | (go_simp; rfl)); (case hp => exact (Reps.one (show Kd.M (Kd.int .i64) _ _ _ 1 [.int .i64 1] from rfl) (Reps.one (show Kd.M (Kd.int .i64) _ _ _ 2 [.int .i64 2] from rfl) (Reps.one (show Kd.M (Kd.int .i64) _ _ _ 8 [.int .i64 8] from rfl) (Reps.none _ _))))); intro v169 w72 ho73 hb hg_ hnew_; clear hg_ hnew_; (first | rw [← Ny168.out] at ho73 | (simp only [Int.reduceToNat] at ho73; rw [← Ny168.out] at ho73)); have n0_ := am (Kd.R_lower ho73 (below_size (by repeat (first | exact HB.out | apply pb | apply pa | apply pd | refine below_set ?_ GE160.out)))); have n1_ := am (blk_below (g := gb160) (o := .cells #[.int .u8 a0_0, .int .u8 a0_1, .int .u8 a0_2, .int .i16 a0_3, .int .i32 a0_4] 24 (0, 0)) (by first | exact BK160.out | exact blk_drewN BK160.out _) hb); have n2_ := am (below_step (by repeat (first | exact HB.out | apply pb | apply pa | apply pd | refine below_set ?_ GE160.out)) hb); clear BK160; clear HB; have HO170 := n0_; have BK160 := n1_; have HB := n2_; clear n0_ n1_ n2_; clear hb ho73; obtain ⟨Ao74, co74, eo74⟩ := Kd.R_slice HO170.out; subst eo74) | (go_at_call 53; (with_reducible refine (insn_uses.calls k a0_0 a0_1 a0_2 a0_3 a0_4 _ _ y168 false _ ?side1 ?side2 A64.out).mono ?_); (case side1 => repeat (first | exact (Kd.R_reads' HO170.out).2.2 | (with_reducible refine Kd.C_alloc ?_ _) | (with_reducible refine Kd.C_drewN ?_ _) | (with_reducible refine Kd.C_drew ?_))); (case side2 => exact (Kd.R_reads' HO170.out).2.1); rintro e w75 ⟨rfl, hb⟩; have n0_ := am (Kd.R_below (by (with_reducible repeat (first | apply Kd.R_alloc | apply Kd.R_drewN | apply Kd.R_drew)); exact HO170.out) hb); have n1_ := am (blk_below (g := gb160) (o := .cells #[.int .u8 a0_0, .int .u8 a0_1, .int .u8 a0_2, .int .i16 a0_3, .int .i32 a0_4] 24 (0, 0)) (by first | exact BK160.out | exact blk_drewN BK160.out _) hb); have n2_ := am (below_step (by repeat (first | exact HB.out | apply pb | apply pa | apply pd | refine below_set ?_ GE160.out)) hb); clear HO170; clear BK160; clear HB; have HO170 := n0_; have BK160 := n1_; have HB := n2_; clear n0_ n1_ n2_; (try clear hb); (try clear hb2); (try clear hk); (try clear hi))); try go_wp2_with (first | ((with_reducible refine gate_dst (N := 69) rfl ?_); (try (refine gate_guard (by rfl) ?_; dsimp only)); refine Kd.R_lit (Kd.int .i64) _ 3 ?hg (N := 69) ?hd (xs := ([1, 2, 8] : List Int)) (inner := [.int .i64 1, .int .i64 2, .int .i64 8]) (ok := fun _ => True) (okp := fun _ => True) ?hr ?hp (fun _ hk => hk) trivial (Below.refl _ _) (Nat.le_refl _) (by simp) ?_; (case hd => rfl); (case hg => rfl); (case hr => first | (go_simp; done) | (go_simp; rfl)); (case hp => exact (Reps.one (show Kd.M (Kd.int .i64) _ _ _ 1 [.int .i64 1] from rfl) (Reps.one (show Kd.M (Kd.int .i64) _ _ _ 2 [.int .i64 2] from rfl) (Reps.one (show Kd.M (Kd.int .i64) _ _ _ 8 [.int .i64 8] from rfl) (Reps.none _ _))))); intro v169 w72 ho73 hb hg_ hnew_; clear hg_ hnew_; (first | rw [← Ny168.out] at ho73 | (simp only [Int.reduceToNat] at ho73; rw [← Ny168.out] at ho73)); have n0_ := am (Kd.R_lower ho73 (below_size (by repeat (first | exact HB.out | apply pb | apply pa | apply pd | refine below_set ?_ GE160.out)))); have n1_ := am (blk_below (g := gb160) (o := .cells #[.int .u8 a0_0, .int .u8 a0_1, .int .u8 a0_2, .int .i16 a0_3, .int .i32 a0_4] 24 (0, 0)) (by first | exact BK160.out | exact blk_drewN BK160.out _) hb); have n2_ := am (below_step (by repeat (first | exact HB.out | apply pb | apply pa | apply pd | refine below_set ?_ GE160.out)) hb); clear BK160; clear HB; have HO170 := n0_; have BK160 := n1_; have HB := n2_; clear n0_ n1_ n2_; clear hb ho73; obtain ⟨Ao74, co74, eo74⟩ := Kd.R_slice HO170.out; subst eo74) | (go_at_call 53; (with_reducible refine (insn_uses.calls k a0_0 a0_1 a0_2 a0_3 a0_4 _ _ y168 false _ ?side1 ?side2 A64.out).mono ?_); (case side1 => repeat (first | exact (Kd.R_reads' HO170.out).2.2 | (with_reducible refine Kd.C_alloc ?_ _) | (with_reducible refine Kd.C_drewN ?_ _) | (with_reducible refine Kd.C_drew ?_))); (case side2 => exact (Kd.R_reads' HO170.out).2.1); rintro e w75 ⟨rfl, hb⟩; have n0_ := am (Kd.R_below (by (with_reducible repeat (first | apply Kd.R_alloc | apply Kd.R_drewN | apply Kd.R_drew)); exact HO170.out) hb); have n1_ := am (blk_below (g := gb160) (o := .cells #[.int .u8 a0_0, .int .u8 a0_1, .int .u8 a0_2, .int .i16 a0_3, .int .i32 a0_4] 24 (0, 0)) (by first | exact BK160.out | exact blk_drewN BK160.out _) hb); have n2_ := am (below_step (by repeat (first | exact HB.out | apply pb | apply pa | apply pd | refine below_set ?_ GE160.out)) hb); clear HO170; clear BK160; clear HB; have HO170 := n0_; have BK160 := n1_; have HB := n2_; clear n0_ n1_ n2_; (try clear hb); (try clear hb2); (try clear hk); (try clear hi))))
             go_ret
             exact ⟨by first | rfl | (simp [errW_none, errW_some] <;> rfl) | (simp [*, errW_none, errW_some] <;> rfl), by repeat (first | (with_reducible first | exact HB.out | apply below_alloc | apply pw_below_drewN | apply below_drew1 | refine below_set ?_ GE160.out) | exact HB.out)⟩
           ·rw [if_neg c63] at H
            have c63b0 : decide (a0_2 ≤ 2) = false := decide_eq_false c63
            clear c63
            obtain rfl := Option.some.inj H
            have hcz76_0 : w6.cell? ⟨gb160, 0, none⟩ = some (.int .u8 a0_0) := (blk_cell BK160.out 0).trans rfl
            have hcz76_1 : w6.cell? ⟨gb160, 1, none⟩ = some (.int .u8 a0_1) := (blk_cell BK160.out 1).trans rfl
            have hcz76_2 : w6.cell? ⟨gb160, 2, none⟩ = some (.int .u8 a0_2) := (blk_cell BK160.out 2).trans rfl
            have hcz76_3 : w6.cell? ⟨gb160, 3, none⟩ = some (.int .i16 a0_3) := (blk_cell BK160.out 3).trans rfl
            have hcz76_4 : w6.cell? ⟨gb160, 4, none⟩ = some (.int .i32 a0_4) := (blk_cell BK160.out 4).trans rfl
            have hfz76_0 := blk_frozen BK160.out 0
            have hfz76_1 := blk_frozen BK160.out 1
            have hfz76_2 := blk_frozen BK160.out 2
            have hfz76_3 := blk_frozen BK160.out 3
            have hfz76_4 := blk_frozen BK160.out 4
            go_wp2
            repeat (go_quiet (fail); try go_wp2)
            go_ret
            exact ⟨by first | rfl | (simp [errW_none, errW_some] <;> rfl) | (simp [*, errW_none, errW_some] <;> rfl), by repeat (first | (with_reducible first | exact HB.out | apply below_alloc | apply pw_below_drewN | apply below_drew1 | refine below_set ?_ GE160.out) | exact HB.out)⟩
         ·rw [if_neg c60] at H
          have c60b0 : (a0_0 == 24) = false := beq_eq_false_iff_ne.mpr c60
          have c60b1 : (a0_0 != 24) = true := bne_iff_ne.mpr c60
          obtain rfl := Option.some.inj H
          have hcz77_0 : w6.cell? ⟨gb160, 0, none⟩ = some (.int .u8 a0_0) := (blk_cell BK160.out 0).trans rfl
          have hcz77_1 : w6.cell? ⟨gb160, 1, none⟩ = some (.int .u8 a0_1) := (blk_cell BK160.out 1).trans rfl
          have hcz77_2 : w6.cell? ⟨gb160, 2, none⟩ = some (.int .u8 a0_2) := (blk_cell BK160.out 2).trans rfl
          have hcz77_3 : w6.cell? ⟨gb160, 3, none⟩ = some (.int .i16 a0_3) := (blk_cell BK160.out 3).trans rfl
          have hcz77_4 : w6.cell? ⟨gb160, 4, none⟩ = some (.int .i32 a0_4) := (blk_cell BK160.out 4).trans rfl
          have hfz77_0 := blk_frozen BK160.out 0
          have hfz77_1 := blk_frozen BK160.out 1
          have hfz77_2 := blk_frozen BK160.out 2
          have hfz77_3 := blk_frozen BK160.out 3
          have hfz77_4 := blk_frozen BK160.out 4
          go_wp2
          repeat (go_quiet (fail); try go_wp2)
          go_ret
          exact ⟨by first | rfl | (simp [errW_none, errW_some] <;> rfl) | (simp [*, errW_none, errW_some] <;> rfl), by repeat (first | (with_reducible first | exact HB.out | apply below_alloc | apply pw_below_drewN | apply below_drew1 | refine below_set ?_ GE160.out) | exact HB.out)⟩
 case rest =>
  clear HC3
  try clear c1
  try clear c2
  try clear p2
  try clear c3
  try clear c5
  try clear c6
  try clear c7
  try clear c7b0
  try clear c7b1
  try clear c8
  try clear c8b0
  try clear c8b1
  try clear c9
  try clear c9b0
  try clear c9b1
  try clear c10
  try clear c10b0
  try clear c10b1
  try clear c12
  try clear c17
  try clear c17b0
  try clear c17b1
  try clear c18
  try clear c18b0
  try clear c18b1
  try clear c19
  try clear c20
  try clear c25
  try clear c25b0
  try clear c25b1
  try clear c27
  try clear c27b0
  try clear c27b1
  try clear c28
  try clear c28b0
  try clear c28b1
  try clear c35
  try clear c36
  try clear c36b0
  try clear c36b1
  try clear c37
  try clear c37b0
  try clear c37b1
  try clear c39
  try clear c50
  try clear c50b0
  try clear c50b1
  try clear c52
  try clear c52b0
  try clear c52b1
  try clear c59
  try clear c60
  try clear c60b0
  try clear c60b1
  try clear c61
  try clear c61b0
  try clear c61b1
  try clear c63
  try clear c63b0
  try clear c65
  try clear hcz13_0
  try clear hcz13_1
  try clear hcz13_2
  try clear hcz13_3
  try clear hcz13_4
  try clear hcz15_0
  try clear hcz15_1
  try clear hcz15_2
  try clear hcz15_3
  try clear hcz15_4
  try clear hcz21_0
  try clear hcz21_1
  try clear hcz21_2
  try clear hcz21_3
  try clear hcz21_4
  try clear hcz23_0
  try clear hcz23_1
  try clear hcz23_2
  try clear hcz23_3
  try clear hcz23_4
  try clear hcz30_0
  try clear hcz30_1
  try clear hcz30_2
  try clear hcz30_3
  try clear hcz30_4
  try clear hcz40_0
  try clear hcz40_1
  try clear hcz40_2
  try clear hcz40_3
  try clear hcz40_4
  try clear hcz45_0
  try clear hcz45_1
  try clear hcz45_2
  try clear hcz45_3
  try clear hcz45_4
  try clear hcz54_0
  try clear hcz54_1
  try clear hcz54_2
  try clear hcz54_3
  try clear hcz54_4
  try clear hcz5_0
  try clear hcz5_1
  try clear hcz5_2
  try clear hcz5_3
  try clear hcz5_4
  try clear hcz62_0
  try clear hcz62_1
  try clear hcz62_2
  try clear hcz62_3
  try clear hcz62_4
  try clear hcz66_0
  try clear hcz66_1
  try clear hcz66_2
  try clear hcz66_3
  try clear hcz66_4
  try clear hcz71_0
  try clear hcz71_1
  try clear hcz71_2
  try clear hcz71_3
  try clear hcz71_4
  try clear hcz76_0
  try clear hcz76_1
  try clear hcz76_2
  try clear hcz76_3
  try clear hcz76_4
  try clear hcz77_0
  try clear hcz77_1
  try clear hcz77_2
  try clear hcz77_3
  try clear hcz77_4
  try clear hfz13_0
  try clear hfz13_1
  try clear hfz13_2
  try clear hfz13_3
  try clear hfz13_4
  try clear hfz15_0
  try clear hfz15_1
  try clear hfz15_2
  try clear hfz15_3
  try clear hfz15_4
  try clear hfz21_0
  try clear hfz21_1
  try clear hfz21_2
  try clear hfz21_3
  try clear hfz21_4
  try clear hfz23_0
  try clear hfz23_1
  try clear hfz23_2
  try clear hfz23_3
  try clear hfz23_4
  try clear hfz30_0
  try clear hfz30_1
  try clear hfz30_2
  try clear hfz30_3
  try clear hfz30_4
  try clear hfz40_0
  try clear hfz40_1
  try clear hfz40_2
  try clear hfz40_3
  try clear hfz40_4
  try clear hfz45_0
  try clear hfz45_1
  try clear hfz45_2
  try clear hfz45_3
  try clear hfz45_4
  try clear hfz54_0
  try clear hfz54_1
  try clear hfz54_2
  try clear hfz54_3
  try clear hfz54_4
  try clear hfz5_0
  try clear hfz5_1
  try clear hfz5_2
  try clear hfz5_3
  try clear hfz5_4
  try clear hfz62_0
  try clear hfz62_1
  try clear hfz62_2
  try clear hfz62_3
  try clear hfz62_4
  try clear hfz66_0
  try clear hfz66_1
  try clear hfz66_2
  try clear hfz66_3
  try clear hfz66_4
  try clear hfz71_0
  try clear hfz71_1
  try clear hfz71_2
  try clear hfz71_3
  try clear hfz71_4
  try clear hfz76_0
  try clear hfz76_1
  try clear hfz76_2
  try clear hfz76_3
  try clear hfz76_4
  try clear hfz77_0
  try clear hfz77_1
  try clear hfz77_2
  try clear hfz77_3
  try clear hfz77_4
  try clear p2
  obtain ⟨kq, HA, HJ2, BK160, HB⟩ := hcut
  cases kq with
  | zero => exact absurd HA.out (by simp [insn_Kind.j0])
  | succ kj2 =>
   have H := HA.out
   clear HA
   simp only [insn_Kind.j0] at H
   replace H := Option.bind_eq_some_iff.mp H
   obtain ⟨t172, A780, H⟩ := H
   try dsimp only at H
   have A78 := am A780
   clear A780
   obtain rfl := Option.some.inj H
   have hcz79_0 : wc.cell? ⟨gb160, 0, none⟩ = some (.int .u8 a0_0) := (blk_cell BK160.out 0).trans rfl
   have hcz79_1 : wc.cell? ⟨gb160, 1, none⟩ = some (.int .u8 a0_1) := (blk_cell BK160.out 1).trans rfl
   have hcz79_2 : wc.cell? ⟨gb160, 2, none⟩ = some (.int .u8 a0_2) := (blk_cell BK160.out 2).trans rfl
   have hcz79_3 : wc.cell? ⟨gb160, 3, none⟩ = some (.int .i16 a0_3) := (blk_cell BK160.out 3).trans rfl
   have hcz79_4 : wc.cell? ⟨gb160, 4, none⟩ = some (.int .i32 a0_4) := (blk_cell BK160.out 4).trans rfl
   have hfz79_0 := blk_frozen BK160.out 0
   have hfz79_1 := blk_frozen BK160.out 1
   have hfz79_2 := blk_frozen BK160.out 2
   have hfz79_3 := blk_frozen BK160.out 3
   have hfz79_4 := blk_frozen BK160.out 4
   go_wp2_with (first | (go_at_call 51; (with_reducible refine (insn_jump.calls kj2 a0_0 a0_1 a0_2 a0_3 a0_4 t172 _ A78.out).mono ?_); rintro e w80 ⟨rfl, hb⟩; have n0_ := am (blk_below (g := gb160) (o := .cells #[.int .u8 a0_0, .int .u8 a0_1, .int .u8 a0_2, .int .i16 a0_3, .int .i32 a0_4] 24 (0, 0)) (by first | exact BK160.out | exact blk_drewN BK160.out _) hb); have n1_ := am (below_step (by repeat (first | exact HB.out | apply pb | apply pa | apply pd | refine below_set ?_ GE160.out)) hb); clear BK160; clear HB; have BK160 := n0_; have HB := n1_; clear n0_ n1_; (try clear hb); (try clear hb2); (try clear hk); (try clear hi)))
   repeat (go_quiet (first | (go_at_call 51; (with_reducible refine (insn_jump.calls kj2 a0_0 a0_1 a0_2 a0_3 a0_4 t172 _ A78.out).mono ?_); rintro e w80 ⟨rfl, hb⟩; have n0_ := am (blk_below (g := gb160) (o := .cells #[.int .u8 a0_0, .int .u8 a0_1, .int .u8 a0_2, .int .i16 a0_3, .int .i32 a0_4] 24 (0, 0)) (by first | exact BK160.out | exact blk_drewN BK160.out _) hb); have n1_ := am (below_step (by repeat (first | exact HB.out | apply pb | apply pa | apply pd | refine below_set ?_ GE160.out)) hb); clear BK160; clear HB; have BK160 := n0_; have HB := n1_; clear n0_ n1_; (try clear hb); (try clear hb2); (try clear hk); (try clear hi))); try go_wp2_with (first | (go_at_call 51; (with_reducible refine (insn_jump.calls kj2 a0_0 a0_1 a0_2 a0_3 a0_4 t172 _ A78.out).mono ?_); rintro e w80 ⟨rfl, hb⟩; have n0_ := am (blk_below (g := gb160) (o := .cells #[.int .u8 a0_0, .int .u8 a0_1, .int .u8 a0_2, .int .i16 a0_3, .int .i32 a0_4] 24 (0, 0)) (by first | exact BK160.out | exact blk_drewN BK160.out _) hb); have n1_ := am (below_step (by repeat (first | exact HB.out | apply pb | apply pa | apply pd | refine below_set ?_ GE160.out)) hb); clear BK160; clear HB; have BK160 := n0_; have HB := n1_; clear n0_ n1_; (try clear hb); (try clear hb2); (try clear hk); (try clear hi))))
   go_ret
   exact ⟨by first | rfl | (simp [errW_none, errW_some] <;> rfl) | (simp [*, errW_none, errW_some] <;> rfl), by repeat (first | (with_reducible first | exact HB.out | apply below_alloc | apply pw_below_drewN | apply below_drew1 | refine below_set ?_ GE160.out) | exact HB.out)⟩

end Go.Proofs.Ytibghcmkmbamjaa.PI
