-- turned from the kit's print
import Derived.Test.YtnljfoaacngamaaPDx0
import Derived.Test.YtnljfoaacngamaaShort
import Derived.Test.YtnljfoaacngamaaPDx1
import Derived.Test.YtnljfoaacngamaaPDx2
import Derived.Test.YtnljfoaacngamaaPDx2r
import Derived.Test.YtnljfoaacngamaaPDx6
import Derived.Test.YtnljfoaacngamaaPDx7
import Derived.Test.YtnljfoaacngamaaPDx7r
import Derived.Test.YtnljfoaacngamaaPDx8
import Derived.Test.YtnljfoaacngamaaPDx10
import Derived.Test.YtnljfoaacngamaaPDx12
import Derived.Test.YtnljfoaacngamaaPDx12r
import Derived.Test.YtnljfoaacngamaaPDx13
import Derived.Test.YtnljfoaacngamaaPDx13r
namespace Go.Proofs.Ytnljfoaacngamaa.PD
open Go.RowKit Go.Proofs.YtnljfoaacngamaaW.PrintWords Go.Proofs.YtnljfoaacngamaaW.PrintLast Go.Proofs.YtnljfoaacngamaaW.PrintMore
attribute [local go_sem] max2_int min2_int max_two min_two max_three min_three max_four min_four   -- for this text's walks alone
set_option linter.unusedVariables false
set_option linter.unusedSimpArgs false

attribute [local go_sem high] eqA24
/-! ### wardenlaw03_TnumReckons: function 5 -/
mutual
def wardenlaw03_TnumReckons.j0 : Nat → Int → Bool → Int → Int → Int → Int → Option (Bool)
 | 0, _, _, _, _, _, _ => none
 | k + 1, x13, x14, x374000, x374001, x375000, x375001 => (tnum_And.f x374000 x374001 x375000 x375001).bind fun bt387 => ((wardenref03_Bits.f k x374000 x374001 x375000 x375001 1).bind fun bt389 => (if (bt387.1 == bt389.1 && (bt387.2 == bt389.2)) = true then ((tnum_Or.f x374000 x374001 x375000 x375001).bind fun bt391 => ((wardenref03_Bits.f k x374000 x374001 x375000 x375001 2).bind fun bt393 => (if (bt391.1 == bt393.1 && (bt391.2 == bt393.2)) = true then ((tnum_Xor.f x374000 x374001 x375000 x375001).bind fun bt395 => ((wardenref03_Bits.f k x374000 x374001 x375000 x375001 3).bind fun bt397 => (wardenlaw03_TnumReckons.j1 k x13 x14 (bt395.1 == bt397.1 && (bt395.2 == bt397.2)) x374000 x374001))) else (wardenlaw03_TnumReckons.j1 k x13 x14 false x374000 x374001)))) else (wardenlaw03_TnumReckons.j1 k x13 x14 false x374000 x374001)))
def wardenlaw03_TnumReckons.j1 : Nat → Int → Bool → Bool → Int → Int → Option (Bool)
 | 0, _, _, _, _, _ => none
 | k + 1, x13, x14, x15, x374000, x374001 => (tnum_Shl.f x374000 x374001 x13).bind fun bt399 => ((wardenref03_Shift.f k x374000 x374001 x13 0).bind fun bt401 => (if (bt399.1 == bt401.1 && (bt399.2 == bt401.2)) = true then ((tnum_Shr.f x374000 x374001 x13).bind fun bt403 => ((wardenref03_Shift.f k x374000 x374001 x13 1).bind fun bt405 => (if (bt403.1 == bt405.1 && (bt403.2 == bt405.2)) = true then ((tnum_Sar.f x374000 x374001 x13).bind fun bt407 => ((wardenref03_Shift.f k x374000 x374001 x13 2).bind fun bt409 => (if x14 = true then (if x15 = true then (if (bt407.1 == bt409.1 && (bt407.2 == bt409.2)) = true then ((wardenlaw03_works.f k).bind fun t411 => (some t411)) else (some false)) else (some false)) else (some false)))) else (if x14 = true then (if x15 = true then (some false) else (some false)) else (some false))))) else (if x14 = true then (if x15 = true then (some false) else (some false)) else (some false))))
end
def wardenlaw03_TnumReckons.f (k : Nat) (a0 : Int) (a1 : Int) (a2 : Int) (a3 : Int) (a4 : Int) : Option (Bool) := (wardenlaw03_of.f a0 a1).bind fun bt369 => ((wardenlaw03_of.f a2 a3).bind fun bt371 => ((tnum_Add.f bt369.1 bt369.2 bt371.1 bt371.2).bind fun bt375 => ((wardenref03_Add.f bt369.1 bt369.2 bt371.1 bt371.2).bind fun bt377 => (if (bt375.1 == bt377.1 && (bt375.2 == bt377.2)) = true then ((tnum_Sub.f bt369.1 bt369.2 bt371.1 bt371.2).bind fun bt379 => ((wardenref03_Sub.f bt369.1 bt369.2 bt371.1 bt371.2).bind fun bt381 => (if (bt379.1 == bt381.1 && (bt379.2 == bt381.2)) = true then ((tnum_Mul.f k bt369.1 bt369.2 bt371.1 bt371.2).bind fun bt383 => ((wardenref03_Mul.f k bt369.1 bt369.2 bt371.1 bt371.2).bind fun bt385 => (wardenlaw03_TnumReckons.j0 k (IntKind.u64.wrap (a4)) (bt383.1 == bt385.1 && (bt383.2 == bt385.2)) bt369.1 bt369.2 bt371.1 bt371.2))) else (wardenlaw03_TnumReckons.j0 k (IntKind.u64.wrap (a4)) false bt369.1 bt369.2 bt371.1 bt371.2)))) else (wardenlaw03_TnumReckons.j0 k (IntKind.u64.wrap (a4)) false bt369.1 bt369.2 bt371.1 bt371.2)))))
theorem wardenlaw03_TnumReckons.mono_l : ∀ k, (∀ y0 y1 y2 y3 y4 y5, LeO (wardenlaw03_TnumReckons.j0 k y0 y1 y2 y3 y4 y5) (wardenlaw03_TnumReckons.j0 (k + 1) y0 y1 y2 y3 y4 y5)) ∧ (∀ y0 y1 y2 y3 y4, LeO (wardenlaw03_TnumReckons.j1 k y0 y1 y2 y3 y4) (wardenlaw03_TnumReckons.j1 (k + 1) y0 y1 y2 y3 y4))
 | 0 => ⟨fun _ _ _ _ _ _ r h => by simp [wardenlaw03_TnumReckons.j0] at h, fun _ _ _ _ _ r h => by simp [wardenlaw03_TnumReckons.j1] at h⟩
 | k + 1 => by
  obtain ⟨ih0, ih1⟩ := wardenlaw03_TnumReckons.mono_l k
  refine ⟨?_, ?_⟩
  ·intro y0 y1 y2 y3 y4 y5
   unfold wardenlaw03_TnumReckons.j0
   repeat' first
   | (with_reducible exact ih0 _ _ _ _ _ _)
   | (with_reducible exact ih1 _ _ _ _ _)
   | (with_reducible exact tnum_Mul.mono _ _ _ _ _)
   | (with_reducible exact wardenlaw03_works.mono _)
   | (with_reducible exact wardenref03_Bits.mono _ _ _ _ _ _)
   | (with_reducible exact wardenref03_Mul.mono _ _ _ _ _)
   | (with_reducible exact wardenref03_Shift.mono _ _ _ _ _)
   | (with_reducible exact LeO.refl _)
   | (with_reducible exact LeO.none _)
   | (with_reducible refine LeO.ite ?_ ?_)
   | (with_reducible refine LeO.bind ?_ (fun _ => ?_))
   | exact ih0 _ _ _ _ _ _
   | exact ih1 _ _ _ _ _
   | exact tnum_Mul.mono _ _ _ _ _
   | exact wardenlaw03_works.mono _
   | exact wardenref03_Bits.mono _ _ _ _ _ _
   | exact wardenref03_Mul.mono _ _ _ _ _
   | exact wardenref03_Shift.mono _ _ _ _ _
   | exact LeO.none _
   | refine LeO.ite ?_ ?_
   | refine LeO.bind ?_ (fun _ => ?_)
  ·intro y0 y1 y2 y3 y4
   unfold wardenlaw03_TnumReckons.j1
   repeat' first
   | (with_reducible exact ih0 _ _ _ _ _ _)
   | (with_reducible exact ih1 _ _ _ _ _)
   | (with_reducible exact tnum_Mul.mono _ _ _ _ _)
   | (with_reducible exact wardenlaw03_works.mono _)
   | (with_reducible exact wardenref03_Bits.mono _ _ _ _ _ _)
   | (with_reducible exact wardenref03_Mul.mono _ _ _ _ _)
   | (with_reducible exact wardenref03_Shift.mono _ _ _ _ _)
   | (with_reducible exact LeO.refl _)
   | (with_reducible exact LeO.none _)
   | (with_reducible refine LeO.ite ?_ ?_)
   | (with_reducible refine LeO.bind ?_ (fun _ => ?_))
   | exact ih0 _ _ _ _ _ _
   | exact ih1 _ _ _ _ _
   | exact tnum_Mul.mono _ _ _ _ _
   | exact wardenlaw03_works.mono _
   | exact wardenref03_Bits.mono _ _ _ _ _ _
   | exact wardenref03_Mul.mono _ _ _ _ _
   | exact wardenref03_Shift.mono _ _ _ _ _
   | exact LeO.none _
   | refine LeO.ite ?_ ?_
   | refine LeO.bind ?_ (fun _ => ?_)
theorem wardenlaw03_TnumReckons.mono : ∀ a0 a1 a2 a3 a4 k, LeO (wardenlaw03_TnumReckons.f k a0 a1 a2 a3 a4) (wardenlaw03_TnumReckons.f (k + 1) a0 a1 a2 a3 a4) := by
 intro a0 a1 a2 a3 a4 k
 obtain ⟨ih0, ih1⟩ := wardenlaw03_TnumReckons.mono_l k
 unfold wardenlaw03_TnumReckons.f
 repeat' first
   | (with_reducible exact ih0 _ _ _ _ _ _)
   | (with_reducible exact ih1 _ _ _ _ _)
   | (with_reducible exact tnum_Mul.mono _ _ _ _ _)
   | (with_reducible exact wardenlaw03_works.mono _)
   | (with_reducible exact wardenref03_Bits.mono _ _ _ _ _ _)
   | (with_reducible exact wardenref03_Mul.mono _ _ _ _ _)
   | (with_reducible exact wardenref03_Shift.mono _ _ _ _ _)
   | (with_reducible exact LeO.refl _)
   | (with_reducible exact LeO.none _)
   | (with_reducible refine LeO.ite ?_ ?_)
   | (with_reducible refine LeO.bind ?_ (fun _ => ?_))
   | exact ih0 _ _ _ _ _ _
   | exact ih1 _ _ _ _ _
   | exact tnum_Mul.mono _ _ _ _ _
   | exact wardenlaw03_works.mono _
   | exact wardenref03_Bits.mono _ _ _ _ _ _
   | exact wardenref03_Mul.mono _ _ _ _ _
   | exact wardenref03_Shift.mono _ _ _ _ _
   | exact LeO.none _
   | refine LeO.ite ?_ ?_
   | refine LeO.bind ?_ (fun _ => ?_)
def wardenlaw03_TnumReckons.T3 : Bool × List (List Nat × List Nat) := (true, [([], []), ([], []), ([0, 1], [0, 1]), ([], []), ([], []), ([3, 4, 2], [3, 4]), ([2, 5], [2, 5]), ([6, 5], [6]), ([7], [7]), ([7], [7]), ([8, 9, 7, 7], [7, 8, 9]), ([7], [7]), ([7], [7]), ([11, 12, 10, 7], [7, 11, 12]), ([10, 13, 7], [7, 10, 13]), ([7, 14], [7, 14]), ([15, 13], [15]), ([16], [16]), ([16], [16]), ([17, 18, 16, 16], [16, 17, 18]), ([16], [16]), ([16], [16]), ([20, 21, 19, 16], [16, 20, 21]), ([19, 22, 16], [16, 19, 22]), ([16, 23], [16, 23]), ([24, 22, 0, 1, 2, 3, 4, 5, 6, 7, 8, 9, 10, 11, 12, 13, 14, 15, 16, 17, 18, 19, 20, 21, 22, 23, 24], [24])])
def wardenlaw03_TnumReckons.B3 : List Nat := [0, 0, 3, 0, 0, 31, 63, 127, 255, 255, 1023, 255, 255, 8191, 16383, 32767, 65535, 131071, 131071, 524287, 131071, 131071, 4194303, 8388607, 16777215, 33554431]
theorem wardenlaw03_TnumReckons.tab3 : rtab .any (opsOf Try.f5 3) = wardenlaw03_TnumReckons.T3 := by kernel_rfl
theorem wardenlaw03_TnumReckons.bits3 : waitsOk wardenlaw03_TnumReckons.T3.2 wardenlaw03_TnumReckons.B3 = true := by kernel_rfl
def wardenlaw03_TnumReckons.T4 : Bool × List (List Nat × List Nat) := (true, [([], []), ([], []), ([0, 1], [0, 1]), ([], []), ([], []), ([3, 4, 2], [3, 4]), ([2, 5], [2, 5]), ([6, 5], [6]), ([7], [7]), ([7], [7]), ([8, 9, 7, 7], [7, 8, 9]), ([7], [7]), ([7], [7]), ([11, 12, 10, 7], [7, 11, 12]), ([10, 13, 7], [7, 10, 13]), ([7, 14], [7, 14]), ([15, 13], [15]), ([16], [16]), ([16], [16]), ([17, 18, 16, 16], [16, 17, 18]), ([16], [16]), ([16], [16]), ([20, 21, 19, 16], [16, 20, 21]), ([19, 22, 16], [16, 19, 22]), ([16, 23], [16, 23]), ([24, 22, 0, 1, 2, 3, 4, 5, 6, 7, 8, 9, 10, 11, 12, 13, 14, 15, 16, 17, 18, 19, 20, 21, 22, 23, 24], [24])])
def wardenlaw03_TnumReckons.B4 : List Nat := [0, 0, 3, 0, 0, 31, 63, 127, 255, 255, 1023, 255, 255, 8191, 16383, 32767, 65535, 131071, 131071, 524287, 131071, 131071, 4194303, 8388607, 16777215, 33554431]
theorem wardenlaw03_TnumReckons.tab4 : rtab .any (opsOf Try.f5 4) = wardenlaw03_TnumReckons.T4 := by kernel_rfl
theorem wardenlaw03_TnumReckons.bits4 : waitsOk wardenlaw03_TnumReckons.T4.2 wardenlaw03_TnumReckons.B4 = true := by kernel_rfl
def wardenlaw03_TnumReckons.T5 : Bool × List (List Nat × List Nat) := (true, [([], []), ([], []), ([0, 1], [0, 1]), ([], []), ([], []), ([3, 4, 2], [3, 4]), ([2, 5], [2, 5]), ([6, 5], [6]), ([7], [7]), ([7], [7]), ([8, 9, 7, 7], [7, 8, 9]), ([7], [7]), ([7], [7]), ([11, 12, 10, 7], [7, 11, 12]), ([10, 13, 7], [7, 10, 13]), ([7, 14], [7, 14]), ([15, 13], [15]), ([16], [16]), ([16], [16]), ([17, 18, 16, 16], [16, 17, 18]), ([16], [16]), ([16], [16]), ([20, 21, 19, 16], [16, 20, 21]), ([19, 22, 16], [16, 19, 22]), ([16, 23], [16, 23]), ([24, 22, 0, 1, 2, 3, 4, 5, 6, 7, 8, 9, 10, 11, 12, 13, 14, 15, 16, 17, 18, 19, 20, 21, 22, 23, 24], [24])])
def wardenlaw03_TnumReckons.B5 : List Nat := [0, 0, 3, 0, 0, 31, 63, 127, 255, 255, 1023, 255, 255, 8191, 16383, 32767, 65535, 131071, 131071, 524287, 131071, 131071, 4194303, 8388607, 16777215, 33554431]
theorem wardenlaw03_TnumReckons.tab5 : rtab .any (opsOf Try.f5 5) = wardenlaw03_TnumReckons.T5 := by kernel_rfl
theorem wardenlaw03_TnumReckons.bits5 : waitsOk wardenlaw03_TnumReckons.T5.2 wardenlaw03_TnumReckons.B5 = true := by kernel_rfl
set_option maxHeartbeats 8000000 in
set_option maxRecDepth 100000 in
theorem wardenlaw03_TnumReckons.calls (k : Nat) (a0 : Int) (a1 : Int) (a2 : Int) (a3 : Int) (a4 : Int) (r : Bool) (w : World) (hr_ : Aside0 (r = true)) (h : wardenlaw03_TnumReckons.f k a0 a1 a2 a3 a4 = some r) :
  Calls Try.prog 5 #[.int .u64 a0, .int .u64 a1, .int .u64 a2, .int .u64 a3, .int .u8 a4] w fun e w' => e = .returned (.bool r) ∧ Below w.heap.size w w' := by
 have hu24 := Try.underlying24
 have HB := am (Below.refl w.heap.size w)
 have H : ((wardenlaw03_of.f a0 a1).bind fun bt369 => ((wardenlaw03_of.f a2 a3).bind fun bt371 => ((tnum_Add.f bt369.1 bt369.2 bt371.1 bt371.2).bind fun bt375 => ((wardenref03_Add.f bt369.1 bt369.2 bt371.1 bt371.2).bind fun bt377 => (if (bt375.1 == bt377.1 && (bt375.2 == bt377.2)) = true then ((tnum_Sub.f bt369.1 bt369.2 bt371.1 bt371.2).bind fun bt379 => ((wardenref03_Sub.f bt369.1 bt369.2 bt371.1 bt371.2).bind fun bt381 => (if (bt379.1 == bt381.1 && (bt379.2 == bt381.2)) = true then ((tnum_Mul.f k bt369.1 bt369.2 bt371.1 bt371.2).bind fun bt383 => ((wardenref03_Mul.f k bt369.1 bt369.2 bt371.1 bt371.2).bind fun bt385 => (wardenlaw03_TnumReckons.j0 k (IntKind.u64.wrap (a4)) (bt383.1 == bt385.1 && (bt383.2 == bt385.2)) bt369.1 bt369.2 bt371.1 bt371.2))) else (wardenlaw03_TnumReckons.j0 k (IntKind.u64.wrap (a4)) false bt369.1 bt369.2 bt371.1 bt371.2)))) else (wardenlaw03_TnumReckons.j0 k (IntKind.u64.wrap (a4)) false bt369.1 bt369.2 bt371.1 bt371.2)))))) = some r := h
 clear h
 replace H := Option.bind_eq_some_iff.mp H
 obtain ⟨⟨t369, t370⟩, A60, H⟩ := H
 try dsimp only at H
 have A6 := am A60
 clear A60
 replace H := Option.bind_eq_some_iff.mp H
 obtain ⟨⟨t371, t372⟩, A70, H⟩ := H
 try dsimp only at H
 have A7 := am A70
 clear A70
 have HC8 := am H
 clear H
 go_enter Try.func5, Try.ntmps5
 go_upto_region 3 with (first | ((with_reducible refine gate_callee (f := 9) rfl ?_); refine goesL_ (some 19) rfl rfl Try.func9 (by kernel_rfl) rfl #[.int .u64 a0, .int .u64 a1] rfl (by (try simp only [List.map_toArray, List.map_cons, List.map_nil]); first | done | rfl) ?_; (with_reducible refine (wardenlaw03_of.calls a0 a1 t369 t370 _ A6.out).mono ?_); rintro e w9 ⟨rfl, hb⟩; refine ⟨_, rfl, ?_⟩; have n0_ := am (below_step HB.out hb); clear HB; have HB := n0_; clear n0_; (try clear hb); (try clear hb2); (try clear hk); (try clear hi)) | ((with_reducible refine gate_callee (f := 9) rfl ?_); refine goesL_ (some 22) rfl rfl Try.func9 (by kernel_rfl) rfl #[.int .u64 a2, .int .u64 a3] rfl (by (try simp only [List.map_toArray, List.map_cons, List.map_nil]); first | done | rfl) ?_; (with_reducible refine (wardenlaw03_of.calls a2 a3 t371 t372 _ A7.out).mono ?_); rintro e w10 ⟨rfl, hb⟩; refine ⟨_, rfl, ?_⟩; have n0_ := am (below_step HB.out hb); clear HB; have HB := n0_; clear n0_; (try clear hb); (try clear hb2); (try clear hk); (try clear hi)) | ((with_reducible refine gate_dst (N := 11) rfl ?_); refine box_event ?hg (N := 11) ?hd (cs := #[.int .u64 0, .int .u64 0]) (t := 24) ?hr ?_; (case hd => rfl); (case hg => rfl); (case hr => first | (go_simp; done) | (go_simp; rfl)); intro gb373 hg w11 hbox hb; have n0_ := am (below_step HB.out hb); have n1_ := am (hbox); have n2_ := am ((by rw [hg]; exact (below_size HB.out) : w.heap.size ≤ gb373)); have n3_ := am ((by rw [hg]; exact (below_size HB.out) : w.heap.size ≤ gb373)); clear HB; have HB := n0_; have BK373 := n1_; have GW373 := n2_; have GE373 := n3_; clear n0_ n1_ n2_ n3_; clear hb hbox hg) | ((with_reducible refine gate_dst (N := 12) rfl ?_); refine box_event ?hg (N := 12) ?hd (cs := #[.int .u64 0, .int .u64 0]) (t := 24) ?hr ?_; (case hd => rfl); (case hg => rfl); (case hr => first | (go_simp; done) | (go_simp; rfl)); intro gb374 hg w12 hbox hb; have n0_ := am (blk_below BK373.out hb); have n1_ := am (below_step (by repeat (first | exact HB.out | refine below_set ?_ GE373.out)) hb); have n2_ := am (hbox); have n3_ := am ((by rw [hg]; exact (below_size (by repeat (first | exact HB.out | refine below_set ?_ GE373.out))) : w.heap.size ≤ gb374)); have n4_ := am ((by rw [hg]; exact (below_size (by repeat (first | exact HB.out | refine below_set ?_ GE373.out))) : w.heap.size ≤ gb374)); have n5_ := am ((by rw [hg]; exact Nat.ne_of_lt (blk_lt BK373.out) : gb373 ≠ gb374)); have n6_ := am ((by rw [hg]; exact Nat.ne_of_gt (blk_lt BK373.out) : gb374 ≠ gb373)); clear BK373; clear HB; have BK373 := n0_; have HB := n1_; have BK374 := n2_; have GW374 := n3_; have GE374 := n4_; have NB373_374 := n5_; have NB374_373 := n6_; clear n0_ n1_ n2_ n3_ n4_ n5_ n6_; clear hb hbox hg; have hnb13 := NB373_374.out; have hnc13 := NB374_373.out; have hcz14_0 : w12.cell? ⟨gb373, 0, none⟩ = some (.int .u64 0) := (blk_cell BK373.out 0).trans rfl; have hcz14_1 : w12.cell? ⟨gb373, 1, none⟩ = some (.int .u64 0) := (blk_cell BK373.out 1).trans rfl; have hfz14_0 := blk_frozen BK373.out 0; have hfz14_1 := blk_frozen BK373.out 1; have hcz15_0 : w12.cell? ⟨gb374, 0, none⟩ = some (.int .u64 0) := (blk_cell BK374.out 0).trans rfl; have hcz15_1 : w12.cell? ⟨gb374, 1, none⟩ = some (.int .u64 0) := (blk_cell BK374.out 1).trans rfl; have hfz15_0 := blk_frozen BK374.out 0; have hfz15_1 := blk_frozen BK374.out 1))
 (try simp only [Act.put, List.setIfInBounds_toArray, List.set_cons_zero, List.set_cons_succ])
 go_cut [14] (fun v14 wc => ∃ (kq : Nat) (x14_7 : Bool), v14 = .bool x14_7 ∧ Aside0 (wardenlaw03_TnumReckons.j0 kq (IntKind.u64.wrap (a4)) x14_7 t369 t370 t371 t372 = some r) ∧ Aside0 (kq ≤ k) ∧ Aside0 (wc.heap[gb373]? = some (.cells #[.int .u64 t369, .int .u64 t370] 24 (0, 0))) ∧ Aside0 (wc.heap[gb374]? = some (.cells #[.int .u64 t371, .int .u64 t372] 24 (0, 0))) ∧ Aside0 (Below w.heap.size w wc))
 case first =>
  have H := HC8.out
  clear HC8
  replace H := Option.bind_eq_some_iff.mp H
  obtain ⟨⟨t375, t376⟩, A160, H⟩ := H
  try dsimp only at H
  have A16 := am A160
  clear A160
  replace H := Option.bind_eq_some_iff.mp H
  obtain ⟨⟨t377, t378⟩, A170, H⟩ := H
  try dsimp only at H
  have A17 := am A170
  clear A170
  by_cases c18 : (t375 == t377 && (t376 == t378)) = true
  ·rw [if_pos c18] at H
   have c18b0 : (t375 == t377 && (t376 == t378)) = true := c18
   (try (have c18b1 : decide (t375 = t377 && (t376 == t378)) = true := by simpa using c18))
   (try (have c18b2 : (t375 == t377 && (t376 == t378)) = true := by simpa using c18))
   clear c18
   (first | rw [c18b0] | (simp only [i64_w, i32_w]; rw [c18b0]) | skip)
   replace H := Option.bind_eq_some_iff.mp H
   obtain ⟨⟨t379, t380⟩, A190, H⟩ := H
   try dsimp only at H
   have A19 := am A190
   clear A190
   replace H := Option.bind_eq_some_iff.mp H
   obtain ⟨⟨t381, t382⟩, A200, H⟩ := H
   try dsimp only at H
   have A20 := am A200
   clear A200
   by_cases c21 : (t379 == t381 && (t380 == t382)) = true
   ·rw [if_pos c21] at H
    have c21b0 : (t379 == t381 && (t380 == t382)) = true := c21
    (try (have c21b1 : decide (t379 = t381 && (t380 == t382)) = true := by simpa using c21))
    (try (have c21b2 : (t379 == t381 && (t380 == t382)) = true := by simpa using c21))
    clear c21
    replace H := Option.bind_eq_some_iff.mp H
    obtain ⟨⟨t383, t384⟩, A220, H⟩ := H
    try dsimp only at H
    have A22 := am A220
    clear A220
    replace H := Option.bind_eq_some_iff.mp H
    obtain ⟨⟨t385, t386⟩, A230, H⟩ := H
    try dsimp only at H
    have A23 := am A230
    clear A230
    have H' := am H
    clear H
    try go_wp2
    have n0_ : Aside0 (((((w12.setCell ⟨gb373, 0, none⟩ (.int .u64 t369)).setCell ⟨gb373, 1, none⟩ (.int .u64 t370)).setCell ⟨gb374, 0, none⟩ (.int .u64 t371)).setCell ⟨gb374, 1, none⟩ (.int .u64 t372)).heap[gb373]? = some (.cells #[.int .u64 t369, .int .u64 t370] 24 (0, 0))) := ⟨by (with_reducible repeat (first | refine blk_drewN ?_ _ | refine blk_drew ?_ | refine blk_alloc ?_ _)); refine blk_far ?_ NB373_374.out _; (with_reducible repeat (first | refine blk_drewN ?_ _ | refine blk_drew ?_ | refine blk_alloc ?_ _)); refine blk_far ?_ NB373_374.out _; (with_reducible repeat (first | refine blk_drewN ?_ _ | refine blk_drew ?_ | refine blk_alloc ?_ _)); refine blk_put (cs := #[.int .u64 t369, .int .u64 0]) ?_ 1 _ rfl; (with_reducible repeat (first | refine blk_drewN ?_ _ | refine blk_drew ?_ | refine blk_alloc ?_ _)); refine blk_put (cs := #[.int .u64 0, .int .u64 0]) ?_ 0 _ rfl; (with_reducible repeat (first | refine blk_drewN ?_ _ | refine blk_drew ?_ | refine blk_alloc ?_ _)); exact BK373.out⟩
    have n1_ : Aside0 (((((w12.setCell ⟨gb373, 0, none⟩ (.int .u64 t369)).setCell ⟨gb373, 1, none⟩ (.int .u64 t370)).setCell ⟨gb374, 0, none⟩ (.int .u64 t371)).setCell ⟨gb374, 1, none⟩ (.int .u64 t372)).heap[gb374]? = some (.cells #[.int .u64 t371, .int .u64 t372] 24 (0, 0))) := ⟨by (with_reducible repeat (first | refine blk_drewN ?_ _ | refine blk_drew ?_ | refine blk_alloc ?_ _)); refine blk_put (cs := #[.int .u64 t371, .int .u64 0]) ?_ 1 _ rfl; (with_reducible repeat (first | refine blk_drewN ?_ _ | refine blk_drew ?_ | refine blk_alloc ?_ _)); refine blk_put (cs := #[.int .u64 0, .int .u64 0]) ?_ 0 _ rfl; (with_reducible repeat (first | refine blk_drewN ?_ _ | refine blk_drew ?_ | refine blk_alloc ?_ _)); refine blk_far ?_ NB374_373.out _; (with_reducible repeat (first | refine blk_drewN ?_ _ | refine blk_drew ?_ | refine blk_alloc ?_ _)); refine blk_far ?_ NB374_373.out _; (with_reducible repeat (first | refine blk_drewN ?_ _ | refine blk_drew ?_ | refine blk_alloc ?_ _)); exact BK374.out⟩
    have n2_ : Aside0 (Below w.heap.size w ((((w12.setCell ⟨gb373, 0, none⟩ (.int .u64 t369)).setCell ⟨gb373, 1, none⟩ (.int .u64 t370)).setCell ⟨gb374, 0, none⟩ (.int .u64 t371)).setCell ⟨gb374, 1, none⟩ (.int .u64 t372))) := ⟨by repeat (first | (with_reducible first | exact HB.out | apply below_alloc | apply pw_below_drewN | apply below_drew1 | refine below_set ?_ GE373.out | refine below_set ?_ GE374.out) | exact HB.out)⟩
    (try clear BK373)
    (try clear BK374)
    (try clear HB)
    generalize ((((w12.setCell ⟨gb373, 0, none⟩ (.int .u64 t369)).setCell ⟨gb373, 1, none⟩ (.int .u64 t370)).setCell ⟨gb374, 0, none⟩ (.int .u64 t371)).setCell ⟨gb374, 1, none⟩ (.int .u64 t372)) = w24 at n0_ n1_ n2_ ⊢
    have BK373 := n0_
    have BK374 := n1_
    have HB := n2_
    clear n0_ n1_ n2_
    have n0_ := am (blk_drew BK373.out)
    have n1_ := am (blk_drew BK374.out)
    have n2_ := am (below_drew1 HB.out)
    clear BK373
    clear BK374
    clear HB
    have BK373 := n0_
    have BK374 := n1_
    have HB := n2_
    clear n0_ n1_ n2_
    refine start_ (n := 26) (S := fun w' => w'.cell? ⟨gb373, 0, none⟩ = some (.int .u64 t369) ∧ w'.cell? ⟨gb373, 1, none⟩ = some (.int .u64 t370) ∧ w'.cell? ⟨gb374, 0, none⟩ = some (.int .u64 t371) ∧ w'.cell? ⟨gb374, 1, none⟩ = some (.int .u64 t372)) (ds := []) (ar 26 0) (by kernel_rfl) rfl rfl ⟨(blk_cell BK373.out 0).trans rfl, (blk_cell BK373.out 1).trans rfl, (blk_cell BK374.out 0).trans rfl, (blk_cell BK374.out 1).trans rfl⟩ (fun hHeld => ?_); refine with_tabW wardenlaw03_TnumReckons.tab3 wardenlaw03_TnumReckons.bits3 (fun HT_ HW_ => ?_)
    generalize w24.drew = w25 at BK373 BK374 HB hHeld ⊢
    refine take_ (i := 0) (N := some 25) (v := ?_) (a' := ?_) (ar 26 1) rfl rfl (take_ofW HT_.out HW_.out (by kernel_rfl)) (fun _ _ _ h => h) (Or.inl ⟨by rfl, ?_⟩) hHeld ?_ ?_
    rotate_left
    ·rintro w' ⟨s0, s1, s2, s3⟩
     go_simp
     with_reducible rfl
    rotate_left
    ·simp only [Act.put, q1, q2, q3, i64_w, i32_w]
     rfl
    refine take_ (i := 1) (N := some 26) (v := ?_) (a' := ?_) (ar 26 3) rfl rfl (take_ofW HT_.out HW_.out (by kernel_rfl)) (fun _ _ _ h => h) (Or.inl ⟨by rfl, ?_⟩) hHeld ?_ ?_
    rotate_left
    ·rintro w' ⟨s0, s1, s2, s3⟩
     go_simp
     with_reducible rfl
    rotate_left
    ·simp only [Act.put, q1, q2, q3, i64_w, i32_w]
     rfl
    refine take_ (i := 3) (N := some 28) (v := ?_) (a' := ?_) (ar 26 11) rfl rfl (take_ofW HT_.out HW_.out (by kernel_rfl)) (fun _ _ _ h => h) (Or.inl ⟨by rfl, ?_⟩) hHeld ?_ ?_
    rotate_left
    ·rintro w' ⟨s0, s1, s2, s3⟩
     go_simp
     with_reducible rfl
    rotate_left
    ·simp only [Act.put, q1, q2, q3, i64_w, i32_w]
     rfl
    refine take_ (i := 4) (N := some 29) (v := ?_) (a' := ?_) (ar 26 27) rfl rfl (take_ofW HT_.out HW_.out (by kernel_rfl)) (fun _ _ _ h => h) (Or.inl ⟨by rfl, ?_⟩) hHeld ?_ ?_
    rotate_left
    ·rintro w' ⟨s0, s1, s2, s3⟩
     go_simp
     with_reducible rfl
    rotate_left
    ·simp only [Act.put, q1, q2, q3, i64_w, i32_w]
     rfl
    refine one_ (i := 2) (N := some 27) (ar 26 31) rfl rfl (one_of HT_.out (by kernel_rfl)) (by decide) (fun K hK => ?_)
    refine goes_ Try.func29 (by kernel_rfl) rfl #[.agg #[.int .u64 t369, .int .u64 t370], .agg #[.int .u64 t371, .int .u64 t372]] (by rfl) rfl rfl (by (try simp only [List.map_toArray, List.map_cons, List.map_nil]); first | done | rfl) ?_
    with_reducible refine (tnum_Add.calls t369 t370 t371 t372 t375 t376 _ A16.out).mono ?_
    rintro e w26 ⟨rfl, hb⟩
    refine ⟨_, rfl, ?_⟩
    have n0_ := am (blk_below BK373.out hb)
    have n1_ := am (blk_below BK374.out hb)
    have n2_ := am (below_step (by repeat (first | exact HB.out | refine below_set ?_ GE373.out | refine below_set ?_ GE374.out)) hb)
    clear BK373
    clear BK374
    clear HB
    have BK373 := n0_
    have BK374 := n1_
    have HB := n2_
    clear n0_ n1_ n2_
    (try clear hb)
    (try clear hb2)
    (try clear hk)
    (try clear hi)
    refine hK.out _ _ ⟨(blk_cell BK373.out 0).trans rfl, (blk_cell BK373.out 1).trans rfl, (blk_cell BK374.out 0).trans rfl, (blk_cell BK374.out 1).trans rfl⟩ (fun hHeld => ?_)
    clear hK K
    refine norm_ (a' := ?_) ?_ ?_
    rotate_left
    ·show Act.put _ (some 27) _ = _
     simp only [Act.put, q1, q2, q3, i64_w, i32_w]
     rfl
    refine one_ (i := 5) (N := some 30) (ar 26 63) rfl rfl (one_of HT_.out (by kernel_rfl)) (by decide) (fun K hK => ?_)
    refine goes_ Try.func30 (by kernel_rfl) rfl #[.agg #[.int .u64 t369, .int .u64 t370], .agg #[.int .u64 t371, .int .u64 t372]] (by rfl) rfl rfl (by (try simp only [List.map_toArray, List.map_cons, List.map_nil]); first | done | rfl) ?_
    with_reducible refine (wardenref03_Add.calls t369 t370 t371 t372 t377 t378 _ A17.out).mono ?_
    rintro e w27 ⟨rfl, hb⟩
    refine ⟨_, rfl, ?_⟩
    have n0_ := am (blk_below BK373.out hb)
    have n1_ := am (blk_below BK374.out hb)
    have n2_ := am (below_step (by repeat (first | exact HB.out | refine below_set ?_ GE373.out | refine below_set ?_ GE374.out)) hb)
    clear BK373
    clear BK374
    clear HB
    have BK373 := n0_
    have BK374 := n1_
    have HB := n2_
    clear n0_ n1_ n2_
    (try clear hb)
    (try clear hb2)
    (try clear hk)
    (try clear hi)
    refine hK.out _ _ ⟨(blk_cell BK373.out 0).trans rfl, (blk_cell BK373.out 1).trans rfl, (blk_cell BK374.out 0).trans rfl, (blk_cell BK374.out 1).trans rfl⟩ (fun hHeld => ?_)
    clear hK K
    refine norm_ (a' := ?_) ?_ ?_
    rotate_left
    ·show Act.put _ (some 30) _ = _
     simp only [Act.put, q1, q2, q3, i64_w, i32_w]
     rfl
    refine pure_ (i := 6) (N := some 31) (v := ?_) (a' := ?_) (ar 26 127) rfl rfl (any_of HT_.out (by kernel_rfl)) (fun _ _ _ h => h) (Or.inl ⟨by rfl, ?_⟩) ?_ ?_
    rotate_left
    ·intro w'
     go_simp
     with_reducible rfl
    rotate_left
    ·simp only [Act.put, q1, q2, q3, i64_w, i32_w]
     rfl
    refine pure_ (i := 7) (N := some 32) (v := ?_) (a' := ?_) (ar 26 255) rfl rfl (any_of HT_.out (by kernel_rfl)) (fun _ _ _ h => h) (Or.inl ⟨by rfl, ?_⟩) ?_ ?_
    rotate_left
    ·intro w'
     go_simp
     with_reducible rfl
    rotate_left
    ·simp only [Act.put, q1, q2, q3, i64_w, i32_w]
     rfl
    refine take_ (i := 8) (N := some 33) (v := ?_) (a' := ?_) (ar 26 511) rfl rfl (take_ofW HT_.out HW_.out (by kernel_rfl)) (fun _ _ _ h => h) (Or.inl ⟨by rfl, ?_⟩) hHeld ?_ ?_
    rotate_left
    ·rintro w' ⟨s0, s1, s2, s3⟩
     go_simp
     with_reducible rfl
    rotate_left
    ·simp only [Act.put, q1, q2, q3, i64_w, i32_w]
     rfl
    refine take_ (i := 9) (N := some 34) (v := ?_) (a' := ?_) (ar 26 1023) rfl rfl (take_ofW HT_.out HW_.out (by kernel_rfl)) (fun _ _ _ h => h) (Or.inl ⟨by rfl, ?_⟩) hHeld ?_ ?_
    rotate_left
    ·rintro w' ⟨s0, s1, s2, s3⟩
     go_simp
     with_reducible rfl
    rotate_left
    ·simp only [Act.put, q1, q2, q3, i64_w, i32_w]
     rfl
    refine take_ (i := 11) (N := some 36) (v := ?_) (a' := ?_) (ar 26 3071) rfl rfl (take_ofW HT_.out HW_.out (by kernel_rfl)) (fun _ _ _ h => h) (Or.inl ⟨by rfl, ?_⟩) hHeld ?_ ?_
    rotate_left
    ·rintro w' ⟨s0, s1, s2, s3⟩
     go_simp
     with_reducible rfl
    rotate_left
    ·simp only [Act.put, q1, q2, q3, i64_w, i32_w]
     rfl
    refine take_ (i := 12) (N := some 37) (v := ?_) (a' := ?_) (ar 26 7167) rfl rfl (take_ofW HT_.out HW_.out (by kernel_rfl)) (fun _ _ _ h => h) (Or.inl ⟨by rfl, ?_⟩) hHeld ?_ ?_
    rotate_left
    ·rintro w' ⟨s0, s1, s2, s3⟩
     go_simp
     with_reducible rfl
    rotate_left
    ·simp only [Act.put, q1, q2, q3, i64_w, i32_w]
     rfl
    refine one_ (i := 10) (N := some 35) (ar 26 8191) rfl rfl (one_of HT_.out (by kernel_rfl)) (by decide) (fun K hK => ?_)
    refine goes_ Try.func31 (by kernel_rfl) rfl #[.agg #[.int .u64 t369, .int .u64 t370], .agg #[.int .u64 t371, .int .u64 t372]] (by rfl) rfl rfl (by (try simp only [List.map_toArray, List.map_cons, List.map_nil]); first | done | rfl) ?_
    with_reducible refine (tnum_Sub.calls t369 t370 t371 t372 t379 t380 _ A19.out).mono ?_
    rintro e w28 ⟨rfl, hb⟩
    refine ⟨_, rfl, ?_⟩
    have n0_ := am (blk_below BK373.out hb)
    have n1_ := am (blk_below BK374.out hb)
    have n2_ := am (below_step (by repeat (first | exact HB.out | refine below_set ?_ GE373.out | refine below_set ?_ GE374.out)) hb)
    clear BK373
    clear BK374
    clear HB
    have BK373 := n0_
    have BK374 := n1_
    have HB := n2_
    clear n0_ n1_ n2_
    (try clear hb)
    (try clear hb2)
    (try clear hk)
    (try clear hi)
    refine hK.out _ _ ⟨(blk_cell BK373.out 0).trans rfl, (blk_cell BK373.out 1).trans rfl, (blk_cell BK374.out 0).trans rfl, (blk_cell BK374.out 1).trans rfl⟩ (fun hHeld => ?_)
    clear hK K
    refine norm_ (a' := ?_) ?_ ?_
    rotate_left
    ·show Act.put _ (some 35) _ = _
     simp only [Act.put, q1, q2, q3, i64_w, i32_w]
     rfl
    refine one_ (i := 13) (N := some 38) (ar 26 16383) rfl rfl (one_of HT_.out (by kernel_rfl)) (by decide) (fun K hK => ?_)
    refine goes_ Try.func32 (by kernel_rfl) rfl #[.agg #[.int .u64 t369, .int .u64 t370], .agg #[.int .u64 t371, .int .u64 t372]] (by rfl) rfl rfl (by (try simp only [List.map_toArray, List.map_cons, List.map_nil]); first | done | rfl) ?_
    with_reducible refine (wardenref03_Sub.calls t369 t370 t371 t372 t381 t382 _ A20.out).mono ?_
    rintro e w29 ⟨rfl, hb⟩
    refine ⟨_, rfl, ?_⟩
    have n0_ := am (blk_below BK373.out hb)
    have n1_ := am (blk_below BK374.out hb)
    have n2_ := am (below_step (by repeat (first | exact HB.out | refine below_set ?_ GE373.out | refine below_set ?_ GE374.out)) hb)
    clear BK373
    clear BK374
    clear HB
    have BK373 := n0_
    have BK374 := n1_
    have HB := n2_
    clear n0_ n1_ n2_
    (try clear hb)
    (try clear hb2)
    (try clear hk)
    (try clear hi)
    refine hK.out _ _ ⟨(blk_cell BK373.out 0).trans rfl, (blk_cell BK373.out 1).trans rfl, (blk_cell BK374.out 0).trans rfl, (blk_cell BK374.out 1).trans rfl⟩ (fun hHeld => ?_)
    clear hK K
    refine norm_ (a' := ?_) ?_ ?_
    rotate_left
    ·show Act.put _ (some 38) _ = _
     simp only [Act.put, q1, q2, q3, i64_w, i32_w]
     rfl
    refine pure_ (i := 14) (N := some 39) (v := ?_) (a' := ?_) (ar 26 32767) rfl rfl (any_of HT_.out (by kernel_rfl)) (fun _ _ _ h => h) (Or.inl ⟨by rfl, ?_⟩) ?_ ?_
    rotate_left
    ·intro w'
     go_simp
     with_reducible rfl
    rotate_left
    ·simp only [Act.put, q1, q2, q3, i64_w, i32_w]
     rfl
    refine pure_ (i := 15) (N := some 40) (v := ?_) (a' := ?_) (ar 26 65535) rfl rfl (any_of HT_.out (by kernel_rfl)) (fun _ _ _ h => h) (Or.inl ⟨by rfl, ?_⟩) ?_ ?_
    rotate_left
    ·intro w'
     go_simp
     with_reducible rfl
    rotate_left
    ·simp only [Act.put, q1, q2, q3, i64_w, i32_w]
     rfl
    refine pure_ (i := 16) (N := some 41) (v := ?_) (a' := ?_) (ar 26 131071) rfl rfl (any_of HT_.out (by kernel_rfl)) (fun _ _ _ h => h) (Or.inl ⟨by rfl, ?_⟩) ?_ ?_
    rotate_left
    ·intro w'
     go_simp
     with_reducible rfl
    rotate_left
    ·simp only [Act.put, q1, q2, q3, i64_w, i32_w]
     rfl
    refine take_ (i := 17) (N := some 42) (v := ?_) (a' := ?_) (ar 26 262143) rfl rfl (take_ofW HT_.out HW_.out (by kernel_rfl)) (fun _ _ _ h => h) (Or.inl ⟨by rfl, ?_⟩) hHeld ?_ ?_
    rotate_left
    ·rintro w' ⟨s0, s1, s2, s3⟩
     go_simp
     with_reducible rfl
    rotate_left
    ·simp only [Act.put, q1, q2, q3, i64_w, i32_w]
     rfl
    refine take_ (i := 18) (N := some 43) (v := ?_) (a' := ?_) (ar 26 524287) rfl rfl (take_ofW HT_.out HW_.out (by kernel_rfl)) (fun _ _ _ h => h) (Or.inl ⟨by rfl, ?_⟩) hHeld ?_ ?_
    rotate_left
    ·rintro w' ⟨s0, s1, s2, s3⟩
     go_simp
     with_reducible rfl
    rotate_left
    ·simp only [Act.put, q1, q2, q3, i64_w, i32_w]
     rfl
    refine take_ (i := 20) (N := some 45) (v := ?_) (a' := ?_) (ar 26 1572863) rfl rfl (take_ofW HT_.out HW_.out (by kernel_rfl)) (fun _ _ _ h => h) (Or.inl ⟨by rfl, ?_⟩) hHeld ?_ ?_
    rotate_left
    ·rintro w' ⟨s0, s1, s2, s3⟩
     go_simp
     with_reducible rfl
    rotate_left
    ·simp only [Act.put, q1, q2, q3, i64_w, i32_w]
     rfl
    refine take_ (i := 21) (N := some 46) (v := ?_) (a' := ?_) (ar 26 3670015) rfl rfl (take_ofW HT_.out HW_.out (by kernel_rfl)) (fun _ _ _ h => h) (Or.inl ⟨by rfl, ?_⟩) hHeld ?_ ?_
    rotate_left
    ·rintro w' ⟨s0, s1, s2, s3⟩
     go_simp
     with_reducible rfl
    rotate_left
    ·simp only [Act.put, q1, q2, q3, i64_w, i32_w]
     rfl
    refine one_ (i := 19) (N := some 44) (ar 26 4194303) rfl rfl (one_of HT_.out (by kernel_rfl)) (by decide) (fun K hK => ?_)
    refine goes_ Try.func33 (by kernel_rfl) rfl #[.agg #[.int .u64 t369, .int .u64 t370], .agg #[.int .u64 t371, .int .u64 t372]] (by rfl) rfl rfl (by (try simp only [List.map_toArray, List.map_cons, List.map_nil]); first | done | rfl) ?_
    with_reducible refine (tnum_Mul.calls k t369 t370 t371 t372 t383 t384 _ A22.out).mono ?_
    rintro e w30 ⟨rfl, hb⟩
    refine ⟨_, rfl, ?_⟩
    have n0_ := am (blk_below BK373.out hb)
    have n1_ := am (blk_below BK374.out hb)
    have n2_ := am (below_step (by repeat (first | exact HB.out | refine below_set ?_ GE373.out | refine below_set ?_ GE374.out)) hb)
    clear BK373
    clear BK374
    clear HB
    have BK373 := n0_
    have BK374 := n1_
    have HB := n2_
    clear n0_ n1_ n2_
    (try clear hb)
    (try clear hb2)
    (try clear hk)
    (try clear hi)
    refine hK.out _ _ ⟨(blk_cell BK373.out 0).trans rfl, (blk_cell BK373.out 1).trans rfl, (blk_cell BK374.out 0).trans rfl, (blk_cell BK374.out 1).trans rfl⟩ (fun hHeld => ?_)
    clear hK K
    refine norm_ (a' := ?_) ?_ ?_
    rotate_left
    ·show Act.put _ (some 44) _ = _
     simp only [Act.put, q1, q2, q3, i64_w, i32_w]
     rfl
    refine one_ (i := 22) (N := some 47) (ar 26 8388607) rfl rfl (one_of HT_.out (by kernel_rfl)) (by decide) (fun K hK => ?_)
    refine goes_ Try.func34 (by kernel_rfl) rfl #[.agg #[.int .u64 t369, .int .u64 t370], .agg #[.int .u64 t371, .int .u64 t372]] (by rfl) rfl rfl (by (try simp only [List.map_toArray, List.map_cons, List.map_nil]); first | done | rfl) ?_
    with_reducible refine (wardenref03_Mul.calls k t369 t370 t371 t372 t385 t386 _ A23.out).mono ?_
    rintro e w31 ⟨rfl, hb⟩
    refine ⟨_, rfl, ?_⟩
    have n0_ := am (blk_below BK373.out hb)
    have n1_ := am (blk_below BK374.out hb)
    have n2_ := am (below_step (by repeat (first | exact HB.out | refine below_set ?_ GE373.out | refine below_set ?_ GE374.out)) hb)
    clear BK373
    clear BK374
    clear HB
    have BK373 := n0_
    have BK374 := n1_
    have HB := n2_
    clear n0_ n1_ n2_
    (try clear hb)
    (try clear hb2)
    (try clear hk)
    (try clear hi)
    refine hK.out _ _ ⟨(blk_cell BK373.out 0).trans rfl, (blk_cell BK373.out 1).trans rfl, (blk_cell BK374.out 0).trans rfl, (blk_cell BK374.out 1).trans rfl⟩ (fun hHeld => ?_)
    clear hK K
    refine norm_ (a' := ?_) ?_ ?_
    rotate_left
    ·show Act.put _ (some 47) _ = _
     simp only [Act.put, q1, q2, q3, i64_w, i32_w]
     rfl
    refine pure_ (i := 23) (N := some 48) (v := ?_) (a' := ?_) (ar 26 16777215) rfl rfl (any_of HT_.out (by kernel_rfl)) (fun _ _ _ h => h) (Or.inl ⟨by rfl, ?_⟩) ?_ ?_
    rotate_left
    ·intro w'
     go_simp
     with_reducible rfl
    rotate_left
    ·simp only [Act.put, q1, q2, q3, i64_w, i32_w]
     rfl
    refine pure_ (i := 24) (N := some 49) (v := ?_) (a' := ?_) (ar 26 33554431) rfl rfl (any_of HT_.out (by kernel_rfl)) (fun _ _ _ h => h) (Or.inl ⟨by rfl, ?_⟩) ?_ ?_
    rotate_left
    ·intro w'
     go_simp
     with_reducible rfl
    rotate_left
    ·simp only [Act.put, q1, q2, q3, i64_w, i32_w]
     rfl
    refine pure_ (i := 25) (N := some 14) (v := ?_) (a' := ?_) (ar 26 67108863) rfl rfl (any_of HT_.out (by kernel_rfl)) (fun _ _ _ h => h) (Or.inl ⟨by rfl, ?_⟩) ?_ ?_
    rotate_left
    ·intro w'
     go_simp
     with_reducible rfl
    rotate_left
    ·simp only [Act.put, q1, q2, q3, i64_w, i32_w]
     rfl
    refine done_ (done_of HT_.out (by kernel_rfl)) ?_
    try go_wp2
    go_meet
    case rel => exact ⟨_, ((t383 == t385 && (t384 == t386))), (by first | rfl | (simp; done) | (simp [*]; done)), H', ⟨by first | omega | exact Nat.le_refl _⟩, ⟨by (with_reducible repeat (first | refine blk_drewN ?_ _ | refine blk_drew ?_ | refine blk_alloc ?_ _)); exact BK373.out⟩, ⟨by (with_reducible repeat (first | refine blk_drewN ?_ _ | refine blk_drew ?_ | refine blk_alloc ?_ _)); exact BK374.out⟩, ⟨by repeat (first | (with_reducible first | exact HB.out | apply below_alloc | apply pw_below_drewN | apply below_drew1 | refine below_set ?_ GE373.out | refine below_set ?_ GE374.out) | exact HB.out)⟩⟩
   ·rw [if_neg c21] at H
    have c21b0 : (t379 == t381 && (t380 == t382)) = false := by simpa using c21
    (try (have c21b1 : decide (t379 = t381 && (t380 == t382)) = false := by simpa using c21))
    (try (have c21b2 : (t379 == t381 && (t380 == t382)) = false := by simpa using c21))
    (try (have c21b3 : ¬ (t379 = t381 && (t380 == t382)) := by simpa using c21))
    clear c21
    have H' := am H
    clear H
    try go_wp2
    have n0_ : Aside0 (((((w12.setCell ⟨gb373, 0, none⟩ (.int .u64 t369)).setCell ⟨gb373, 1, none⟩ (.int .u64 t370)).setCell ⟨gb374, 0, none⟩ (.int .u64 t371)).setCell ⟨gb374, 1, none⟩ (.int .u64 t372)).heap[gb373]? = some (.cells #[.int .u64 t369, .int .u64 t370] 24 (0, 0))) := ⟨by (with_reducible repeat (first | refine blk_drewN ?_ _ | refine blk_drew ?_ | refine blk_alloc ?_ _)); refine blk_far ?_ NB373_374.out _; (with_reducible repeat (first | refine blk_drewN ?_ _ | refine blk_drew ?_ | refine blk_alloc ?_ _)); refine blk_far ?_ NB373_374.out _; (with_reducible repeat (first | refine blk_drewN ?_ _ | refine blk_drew ?_ | refine blk_alloc ?_ _)); refine blk_put (cs := #[.int .u64 t369, .int .u64 0]) ?_ 1 _ rfl; (with_reducible repeat (first | refine blk_drewN ?_ _ | refine blk_drew ?_ | refine blk_alloc ?_ _)); refine blk_put (cs := #[.int .u64 0, .int .u64 0]) ?_ 0 _ rfl; (with_reducible repeat (first | refine blk_drewN ?_ _ | refine blk_drew ?_ | refine blk_alloc ?_ _)); exact BK373.out⟩
    have n1_ : Aside0 (((((w12.setCell ⟨gb373, 0, none⟩ (.int .u64 t369)).setCell ⟨gb373, 1, none⟩ (.int .u64 t370)).setCell ⟨gb374, 0, none⟩ (.int .u64 t371)).setCell ⟨gb374, 1, none⟩ (.int .u64 t372)).heap[gb374]? = some (.cells #[.int .u64 t371, .int .u64 t372] 24 (0, 0))) := ⟨by (with_reducible repeat (first | refine blk_drewN ?_ _ | refine blk_drew ?_ | refine blk_alloc ?_ _)); refine blk_put (cs := #[.int .u64 t371, .int .u64 0]) ?_ 1 _ rfl; (with_reducible repeat (first | refine blk_drewN ?_ _ | refine blk_drew ?_ | refine blk_alloc ?_ _)); refine blk_put (cs := #[.int .u64 0, .int .u64 0]) ?_ 0 _ rfl; (with_reducible repeat (first | refine blk_drewN ?_ _ | refine blk_drew ?_ | refine blk_alloc ?_ _)); refine blk_far ?_ NB374_373.out _; (with_reducible repeat (first | refine blk_drewN ?_ _ | refine blk_drew ?_ | refine blk_alloc ?_ _)); refine blk_far ?_ NB374_373.out _; (with_reducible repeat (first | refine blk_drewN ?_ _ | refine blk_drew ?_ | refine blk_alloc ?_ _)); exact BK374.out⟩
    have n2_ : Aside0 (Below w.heap.size w ((((w12.setCell ⟨gb373, 0, none⟩ (.int .u64 t369)).setCell ⟨gb373, 1, none⟩ (.int .u64 t370)).setCell ⟨gb374, 0, none⟩ (.int .u64 t371)).setCell ⟨gb374, 1, none⟩ (.int .u64 t372))) := ⟨by repeat (first | (with_reducible first | exact HB.out | apply below_alloc | apply pw_below_drewN | apply below_drew1 | refine below_set ?_ GE373.out | refine below_set ?_ GE374.out) | exact HB.out)⟩
    (try clear BK373)
    (try clear BK374)
    (try clear HB)
    generalize ((((w12.setCell ⟨gb373, 0, none⟩ (.int .u64 t369)).setCell ⟨gb373, 1, none⟩ (.int .u64 t370)).setCell ⟨gb374, 0, none⟩ (.int .u64 t371)).setCell ⟨gb374, 1, none⟩ (.int .u64 t372)) = w32 at n0_ n1_ n2_ ⊢
    have BK373 := n0_
    have BK374 := n1_
    have HB := n2_
    clear n0_ n1_ n2_
    have n0_ := am (blk_drew BK373.out)
    have n1_ := am (blk_drew BK374.out)
    have n2_ := am (below_drew1 HB.out)
    clear BK373
    clear BK374
    clear HB
    have BK373 := n0_
    have BK374 := n1_
    have HB := n2_
    clear n0_ n1_ n2_
    refine start_ (n := 26) (S := fun w' => w'.cell? ⟨gb373, 0, none⟩ = some (.int .u64 t369) ∧ w'.cell? ⟨gb373, 1, none⟩ = some (.int .u64 t370) ∧ w'.cell? ⟨gb374, 0, none⟩ = some (.int .u64 t371) ∧ w'.cell? ⟨gb374, 1, none⟩ = some (.int .u64 t372)) (ds := []) (ar 26 0) (by kernel_rfl) rfl rfl ⟨(blk_cell BK373.out 0).trans rfl, (blk_cell BK373.out 1).trans rfl, (blk_cell BK374.out 0).trans rfl, (blk_cell BK374.out 1).trans rfl⟩ (fun hHeld => ?_); refine with_tabW wardenlaw03_TnumReckons.tab3 wardenlaw03_TnumReckons.bits3 (fun HT_ HW_ => ?_)
    generalize w32.drew = w33 at BK373 BK374 HB hHeld ⊢
    refine take_ (i := 0) (N := some 25) (v := ?_) (a' := ?_) (ar 26 1) rfl rfl (take_ofW HT_.out HW_.out (by kernel_rfl)) (fun _ _ _ h => h) (Or.inl ⟨by rfl, ?_⟩) hHeld ?_ ?_
    rotate_left
    ·rintro w' ⟨s0, s1, s2, s3⟩
     go_simp
     with_reducible rfl
    rotate_left
    ·simp only [Act.put, q1, q2, q3, i64_w, i32_w]
     rfl
    refine take_ (i := 1) (N := some 26) (v := ?_) (a' := ?_) (ar 26 3) rfl rfl (take_ofW HT_.out HW_.out (by kernel_rfl)) (fun _ _ _ h => h) (Or.inl ⟨by rfl, ?_⟩) hHeld ?_ ?_
    rotate_left
    ·rintro w' ⟨s0, s1, s2, s3⟩
     go_simp
     with_reducible rfl
    rotate_left
    ·simp only [Act.put, q1, q2, q3, i64_w, i32_w]
     rfl
    refine take_ (i := 3) (N := some 28) (v := ?_) (a' := ?_) (ar 26 11) rfl rfl (take_ofW HT_.out HW_.out (by kernel_rfl)) (fun _ _ _ h => h) (Or.inl ⟨by rfl, ?_⟩) hHeld ?_ ?_
    rotate_left
    ·rintro w' ⟨s0, s1, s2, s3⟩
     go_simp
     with_reducible rfl
    rotate_left
    ·simp only [Act.put, q1, q2, q3, i64_w, i32_w]
     rfl
    refine take_ (i := 4) (N := some 29) (v := ?_) (a' := ?_) (ar 26 27) rfl rfl (take_ofW HT_.out HW_.out (by kernel_rfl)) (fun _ _ _ h => h) (Or.inl ⟨by rfl, ?_⟩) hHeld ?_ ?_
    rotate_left
    ·rintro w' ⟨s0, s1, s2, s3⟩
     go_simp
     with_reducible rfl
    rotate_left
    ·simp only [Act.put, q1, q2, q3, i64_w, i32_w]
     rfl
    refine one_ (i := 2) (N := some 27) (ar 26 31) rfl rfl (one_of HT_.out (by kernel_rfl)) (by decide) (fun K hK => ?_)
    refine goes_ Try.func29 (by kernel_rfl) rfl #[.agg #[.int .u64 t369, .int .u64 t370], .agg #[.int .u64 t371, .int .u64 t372]] (by rfl) rfl rfl (by (try simp only [List.map_toArray, List.map_cons, List.map_nil]); first | done | rfl) ?_
    with_reducible refine (tnum_Add.calls t369 t370 t371 t372 t375 t376 _ A16.out).mono ?_
    rintro e w34 ⟨rfl, hb⟩
    refine ⟨_, rfl, ?_⟩
    have n0_ := am (blk_below BK373.out hb)
    have n1_ := am (blk_below BK374.out hb)
    have n2_ := am (below_step (by repeat (first | exact HB.out | refine below_set ?_ GE373.out | refine below_set ?_ GE374.out)) hb)
    clear BK373
    clear BK374
    clear HB
    have BK373 := n0_
    have BK374 := n1_
    have HB := n2_
    clear n0_ n1_ n2_
    (try clear hb)
    (try clear hb2)
    (try clear hk)
    (try clear hi)
    refine hK.out _ _ ⟨(blk_cell BK373.out 0).trans rfl, (blk_cell BK373.out 1).trans rfl, (blk_cell BK374.out 0).trans rfl, (blk_cell BK374.out 1).trans rfl⟩ (fun hHeld => ?_)
    clear hK K
    refine norm_ (a' := ?_) ?_ ?_
    rotate_left
    ·show Act.put _ (some 27) _ = _
     simp only [Act.put, q1, q2, q3, i64_w, i32_w]
     rfl
    refine one_ (i := 5) (N := some 30) (ar 26 63) rfl rfl (one_of HT_.out (by kernel_rfl)) (by decide) (fun K hK => ?_)
    refine goes_ Try.func30 (by kernel_rfl) rfl #[.agg #[.int .u64 t369, .int .u64 t370], .agg #[.int .u64 t371, .int .u64 t372]] (by rfl) rfl rfl (by (try simp only [List.map_toArray, List.map_cons, List.map_nil]); first | done | rfl) ?_
    with_reducible refine (wardenref03_Add.calls t369 t370 t371 t372 t377 t378 _ A17.out).mono ?_
    rintro e w35 ⟨rfl, hb⟩
    refine ⟨_, rfl, ?_⟩
    have n0_ := am (blk_below BK373.out hb)
    have n1_ := am (blk_below BK374.out hb)
    have n2_ := am (below_step (by repeat (first | exact HB.out | refine below_set ?_ GE373.out | refine below_set ?_ GE374.out)) hb)
    clear BK373
    clear BK374
    clear HB
    have BK373 := n0_
    have BK374 := n1_
    have HB := n2_
    clear n0_ n1_ n2_
    (try clear hb)
    (try clear hb2)
    (try clear hk)
    (try clear hi)
    refine hK.out _ _ ⟨(blk_cell BK373.out 0).trans rfl, (blk_cell BK373.out 1).trans rfl, (blk_cell BK374.out 0).trans rfl, (blk_cell BK374.out 1).trans rfl⟩ (fun hHeld => ?_)
    clear hK K
    refine norm_ (a' := ?_) ?_ ?_
    rotate_left
    ·show Act.put _ (some 30) _ = _
     simp only [Act.put, q1, q2, q3, i64_w, i32_w]
     rfl
    refine pure_ (i := 6) (N := some 31) (v := ?_) (a' := ?_) (ar 26 127) rfl rfl (any_of HT_.out (by kernel_rfl)) (fun _ _ _ h => h) (Or.inl ⟨by rfl, ?_⟩) ?_ ?_
    rotate_left
    ·intro w'
     go_simp
     with_reducible rfl
    rotate_left
    ·simp only [Act.put, q1, q2, q3, i64_w, i32_w]
     rfl
    refine pure_ (i := 7) (N := some 32) (v := ?_) (a' := ?_) (ar 26 255) rfl rfl (any_of HT_.out (by kernel_rfl)) (fun _ _ _ h => h) (Or.inl ⟨by rfl, ?_⟩) ?_ ?_
    rotate_left
    ·intro w'
     go_simp
     with_reducible rfl
    rotate_left
    ·simp only [Act.put, q1, q2, q3, i64_w, i32_w]
     rfl
    refine take_ (i := 8) (N := some 33) (v := ?_) (a' := ?_) (ar 26 511) rfl rfl (take_ofW HT_.out HW_.out (by kernel_rfl)) (fun _ _ _ h => h) (Or.inl ⟨by rfl, ?_⟩) hHeld ?_ ?_
    rotate_left
    ·rintro w' ⟨s0, s1, s2, s3⟩
     go_simp
     with_reducible rfl
    rotate_left
    ·simp only [Act.put, q1, q2, q3, i64_w, i32_w]
     rfl
    refine take_ (i := 9) (N := some 34) (v := ?_) (a' := ?_) (ar 26 1023) rfl rfl (take_ofW HT_.out HW_.out (by kernel_rfl)) (fun _ _ _ h => h) (Or.inl ⟨by rfl, ?_⟩) hHeld ?_ ?_
    rotate_left
    ·rintro w' ⟨s0, s1, s2, s3⟩
     go_simp
     with_reducible rfl
    rotate_left
    ·simp only [Act.put, q1, q2, q3, i64_w, i32_w]
     rfl
    refine take_ (i := 11) (N := some 36) (v := ?_) (a' := ?_) (ar 26 3071) rfl rfl (take_ofW HT_.out HW_.out (by kernel_rfl)) (fun _ _ _ h => h) (Or.inl ⟨by rfl, ?_⟩) hHeld ?_ ?_
    rotate_left
    ·rintro w' ⟨s0, s1, s2, s3⟩
     go_simp
     with_reducible rfl
    rotate_left
    ·simp only [Act.put, q1, q2, q3, i64_w, i32_w]
     rfl
    refine take_ (i := 12) (N := some 37) (v := ?_) (a' := ?_) (ar 26 7167) rfl rfl (take_ofW HT_.out HW_.out (by kernel_rfl)) (fun _ _ _ h => h) (Or.inl ⟨by rfl, ?_⟩) hHeld ?_ ?_
    rotate_left
    ·rintro w' ⟨s0, s1, s2, s3⟩
     go_simp
     with_reducible rfl
    rotate_left
    ·simp only [Act.put, q1, q2, q3, i64_w, i32_w]
     rfl
    refine one_ (i := 10) (N := some 35) (ar 26 8191) rfl rfl (one_of HT_.out (by kernel_rfl)) (by decide) (fun K hK => ?_)
    refine goes_ Try.func31 (by kernel_rfl) rfl #[.agg #[.int .u64 t369, .int .u64 t370], .agg #[.int .u64 t371, .int .u64 t372]] (by rfl) rfl rfl (by (try simp only [List.map_toArray, List.map_cons, List.map_nil]); first | done | rfl) ?_
    with_reducible refine (tnum_Sub.calls t369 t370 t371 t372 t379 t380 _ A19.out).mono ?_
    rintro e w36 ⟨rfl, hb⟩
    refine ⟨_, rfl, ?_⟩
    have n0_ := am (blk_below BK373.out hb)
    have n1_ := am (blk_below BK374.out hb)
    have n2_ := am (below_step (by repeat (first | exact HB.out | refine below_set ?_ GE373.out | refine below_set ?_ GE374.out)) hb)
    clear BK373
    clear BK374
    clear HB
    have BK373 := n0_
    have BK374 := n1_
    have HB := n2_
    clear n0_ n1_ n2_
    (try clear hb)
    (try clear hb2)
    (try clear hk)
    (try clear hi)
    refine hK.out _ _ ⟨(blk_cell BK373.out 0).trans rfl, (blk_cell BK373.out 1).trans rfl, (blk_cell BK374.out 0).trans rfl, (blk_cell BK374.out 1).trans rfl⟩ (fun hHeld => ?_)
    clear hK K
    refine norm_ (a' := ?_) ?_ ?_
    rotate_left
    ·show Act.put _ (some 35) _ = _
     simp only [Act.put, q1, q2, q3, i64_w, i32_w]
     rfl
    refine one_ (i := 13) (N := some 38) (ar 26 16383) rfl rfl (one_of HT_.out (by kernel_rfl)) (by decide) (fun K hK => ?_)
    refine goes_ Try.func32 (by kernel_rfl) rfl #[.agg #[.int .u64 t369, .int .u64 t370], .agg #[.int .u64 t371, .int .u64 t372]] (by rfl) rfl rfl (by (try simp only [List.map_toArray, List.map_cons, List.map_nil]); first | done | rfl) ?_
    with_reducible refine (wardenref03_Sub.calls t369 t370 t371 t372 t381 t382 _ A20.out).mono ?_
    rintro e w37 ⟨rfl, hb⟩
    refine ⟨_, rfl, ?_⟩
    have n0_ := am (blk_below BK373.out hb)
    have n1_ := am (blk_below BK374.out hb)
    have n2_ := am (below_step (by repeat (first | exact HB.out | refine below_set ?_ GE373.out | refine below_set ?_ GE374.out)) hb)
    clear BK373
    clear BK374
    clear HB
    have BK373 := n0_
    have BK374 := n1_
    have HB := n2_
    clear n0_ n1_ n2_
    (try clear hb)
    (try clear hb2)
    (try clear hk)
    (try clear hi)
    refine hK.out _ _ ⟨(blk_cell BK373.out 0).trans rfl, (blk_cell BK373.out 1).trans rfl, (blk_cell BK374.out 0).trans rfl, (blk_cell BK374.out 1).trans rfl⟩ (fun hHeld => ?_)
    clear hK K
    refine norm_ (a' := ?_) ?_ ?_
    rotate_left
    ·show Act.put _ (some 38) _ = _
     simp only [Act.put, q1, q2, q3, i64_w, i32_w]
     rfl
    refine pure_ (i := 14) (N := some 39) (v := ?_) (a' := ?_) (ar 26 32767) rfl rfl (any_of HT_.out (by kernel_rfl)) (fun _ _ _ h => h) (Or.inl ⟨by rfl, ?_⟩) ?_ ?_
    rotate_left
    ·intro w'
     go_simp
     with_reducible rfl
    rotate_left
    ·simp only [Act.put, q1, q2, q3, i64_w, i32_w]
     rfl
    refine pure_ (i := 15) (N := some 40) (v := ?_) (a' := ?_) (ar 26 65535) rfl rfl (any_of HT_.out (by kernel_rfl)) (fun _ _ _ h => h) (Or.inl ⟨by rfl, ?_⟩) ?_ ?_
    rotate_left
    ·intro w'
     go_simp
     with_reducible rfl
    rotate_left
    ·simp only [Act.put, q1, q2, q3, i64_w, i32_w]
     rfl
    refine pure_ (i := 16) (N := some 41) (v := ?_) (a' := ?_) (ar 26 131071) rfl rfl (any_of HT_.out (by kernel_rfl)) (fun _ _ _ h => h) (Or.inl ⟨by rfl, ?_⟩) ?_ ?_
    rotate_left
    ·intro w'
     go_simp
     with_reducible rfl
    rotate_left
    ·simp only [Act.put, q1, q2, q3, i64_w, i32_w]
     rfl
    refine pure_ (i := 17) (N := some 42) (v := undef) (a' := ?_) (ar 26 262143) rfl rfl (any_of HT_.out (by kernel_rfl)) (fun _ _ _ h => h) (Or.inr ⟨by rfl, rfl⟩) ?_ ?_
    rotate_left
    ·simp only [Act.put, q1, q2, q3, i64_w, i32_w]
     rfl
    refine pure_ (i := 18) (N := some 43) (v := undef) (a' := ?_) (ar 26 524287) rfl rfl (any_of HT_.out (by kernel_rfl)) (fun _ _ _ h => h) (Or.inr ⟨by rfl, rfl⟩) ?_ ?_
    rotate_left
    ·simp only [Act.put, q1, q2, q3, i64_w, i32_w]
     rfl
    refine pure_ (i := 19) (N := some 44) (v := undef) (a' := ?_) (ar 26 1048575) rfl rfl (any_of HT_.out (by kernel_rfl)) (fun _ _ _ h => h) (Or.inr ⟨by rfl, rfl⟩) ?_ ?_
    rotate_left
    ·simp only [Act.put, q1, q2, q3, i64_w, i32_w]
     rfl
    refine pure_ (i := 20) (N := some 45) (v := undef) (a' := ?_) (ar 26 2097151) rfl rfl (any_of HT_.out (by kernel_rfl)) (fun _ _ _ h => h) (Or.inr ⟨by rfl, rfl⟩) ?_ ?_
    rotate_left
    ·simp only [Act.put, q1, q2, q3, i64_w, i32_w]
     rfl
    refine pure_ (i := 21) (N := some 46) (v := undef) (a' := ?_) (ar 26 4194303) rfl rfl (any_of HT_.out (by kernel_rfl)) (fun _ _ _ h => h) (Or.inr ⟨by rfl, rfl⟩) ?_ ?_
    rotate_left
    ·simp only [Act.put, q1, q2, q3, i64_w, i32_w]
     rfl
    refine pure_ (i := 22) (N := some 47) (v := undef) (a' := ?_) (ar 26 8388607) rfl rfl (any_of HT_.out (by kernel_rfl)) (fun _ _ _ h => h) (Or.inr ⟨by rfl, rfl⟩) ?_ ?_
    rotate_left
    ·simp only [Act.put, q1, q2, q3, i64_w, i32_w]
     rfl
    refine pure_ (i := 23) (N := some 48) (v := undef) (a' := ?_) (ar 26 16777215) rfl rfl (any_of HT_.out (by kernel_rfl)) (fun _ _ _ h => h) (Or.inr ⟨by rfl, rfl⟩) ?_ ?_
    rotate_left
    ·simp only [Act.put, q1, q2, q3, i64_w, i32_w]
     rfl
    refine pure_ (i := 24) (N := some 49) (v := ?_) (a' := ?_) (ar 26 33554431) rfl rfl (any_of HT_.out (by kernel_rfl)) (fun _ _ _ h => h) (Or.inl ⟨by rfl, ?_⟩) ?_ ?_
    rotate_left
    ·intro w'
     go_simp
     with_reducible rfl
    rotate_left
    ·simp only [Act.put, q1, q2, q3, i64_w, i32_w]
     rfl
    refine pure_ (i := 25) (N := some 14) (v := ?_) (a' := ?_) (ar 26 67108863) rfl rfl (any_of HT_.out (by kernel_rfl)) (fun _ _ _ h => h) (Or.inl ⟨by rfl, ?_⟩) ?_ ?_
    rotate_left
    ·intro w'
     go_simp
     with_reducible rfl
    rotate_left
    ·simp only [Act.put, q1, q2, q3, i64_w, i32_w]
     rfl
    refine done_ (done_of HT_.out (by kernel_rfl)) ?_
    try go_wp2
    go_meet
    case rel => exact ⟨_, (false), (by first | rfl | (simp; done) | (simp [*]; done)), H', ⟨by first | omega | exact Nat.le_refl _⟩, ⟨by (with_reducible repeat (first | refine blk_drewN ?_ _ | refine blk_drew ?_ | refine blk_alloc ?_ _)); exact BK373.out⟩, ⟨by (with_reducible repeat (first | refine blk_drewN ?_ _ | refine blk_drew ?_ | refine blk_alloc ?_ _)); exact BK374.out⟩, ⟨by repeat (first | (with_reducible first | exact HB.out | apply below_alloc | apply pw_below_drewN | apply below_drew1 | refine below_set ?_ GE373.out | refine below_set ?_ GE374.out) | exact HB.out)⟩⟩
  ·rw [if_neg c18] at H
   have c18b0 : (t375 == t377 && (t376 == t378)) = false := by simpa using c18
   (try (have c18b1 : decide (t375 = t377 && (t376 == t378)) = false := by simpa using c18))
   (try (have c18b2 : (t375 == t377 && (t376 == t378)) = false := by simpa using c18))
   (try (have c18b3 : ¬ (t375 = t377 && (t376 == t378)) := by simpa using c18))
   clear c18
   (first | rw [c18b0] | (simp only [i64_w, i32_w]; rw [c18b0]) | skip)
   have H' := am H
   clear H
   try go_wp2
   have n0_ : Aside0 (((((w12.setCell ⟨gb373, 0, none⟩ (.int .u64 t369)).setCell ⟨gb373, 1, none⟩ (.int .u64 t370)).setCell ⟨gb374, 0, none⟩ (.int .u64 t371)).setCell ⟨gb374, 1, none⟩ (.int .u64 t372)).heap[gb373]? = some (.cells #[.int .u64 t369, .int .u64 t370] 24 (0, 0))) := ⟨by (with_reducible repeat (first | refine blk_drewN ?_ _ | refine blk_drew ?_ | refine blk_alloc ?_ _)); refine blk_far ?_ NB373_374.out _; (with_reducible repeat (first | refine blk_drewN ?_ _ | refine blk_drew ?_ | refine blk_alloc ?_ _)); refine blk_far ?_ NB373_374.out _; (with_reducible repeat (first | refine blk_drewN ?_ _ | refine blk_drew ?_ | refine blk_alloc ?_ _)); refine blk_put (cs := #[.int .u64 t369, .int .u64 0]) ?_ 1 _ rfl; (with_reducible repeat (first | refine blk_drewN ?_ _ | refine blk_drew ?_ | refine blk_alloc ?_ _)); refine blk_put (cs := #[.int .u64 0, .int .u64 0]) ?_ 0 _ rfl; (with_reducible repeat (first | refine blk_drewN ?_ _ | refine blk_drew ?_ | refine blk_alloc ?_ _)); exact BK373.out⟩
   have n1_ : Aside0 (((((w12.setCell ⟨gb373, 0, none⟩ (.int .u64 t369)).setCell ⟨gb373, 1, none⟩ (.int .u64 t370)).setCell ⟨gb374, 0, none⟩ (.int .u64 t371)).setCell ⟨gb374, 1, none⟩ (.int .u64 t372)).heap[gb374]? = some (.cells #[.int .u64 t371, .int .u64 t372] 24 (0, 0))) := ⟨by (with_reducible repeat (first | refine blk_drewN ?_ _ | refine blk_drew ?_ | refine blk_alloc ?_ _)); refine blk_put (cs := #[.int .u64 t371, .int .u64 0]) ?_ 1 _ rfl; (with_reducible repeat (first | refine blk_drewN ?_ _ | refine blk_drew ?_ | refine blk_alloc ?_ _)); refine blk_put (cs := #[.int .u64 0, .int .u64 0]) ?_ 0 _ rfl; (with_reducible repeat (first | refine blk_drewN ?_ _ | refine blk_drew ?_ | refine blk_alloc ?_ _)); refine blk_far ?_ NB374_373.out _; (with_reducible repeat (first | refine blk_drewN ?_ _ | refine blk_drew ?_ | refine blk_alloc ?_ _)); refine blk_far ?_ NB374_373.out _; (with_reducible repeat (first | refine blk_drewN ?_ _ | refine blk_drew ?_ | refine blk_alloc ?_ _)); exact BK374.out⟩
   have n2_ : Aside0 (Below w.heap.size w ((((w12.setCell ⟨gb373, 0, none⟩ (.int .u64 t369)).setCell ⟨gb373, 1, none⟩ (.int .u64 t370)).setCell ⟨gb374, 0, none⟩ (.int .u64 t371)).setCell ⟨gb374, 1, none⟩ (.int .u64 t372))) := ⟨by repeat (first | (with_reducible first | exact HB.out | apply below_alloc | apply pw_below_drewN | apply below_drew1 | refine below_set ?_ GE373.out | refine below_set ?_ GE374.out) | exact HB.out)⟩
   (try clear BK373)
   (try clear BK374)
   (try clear HB)
   generalize ((((w12.setCell ⟨gb373, 0, none⟩ (.int .u64 t369)).setCell ⟨gb373, 1, none⟩ (.int .u64 t370)).setCell ⟨gb374, 0, none⟩ (.int .u64 t371)).setCell ⟨gb374, 1, none⟩ (.int .u64 t372)) = w38 at n0_ n1_ n2_ ⊢
   have BK373 := n0_
   have BK374 := n1_
   have HB := n2_
   clear n0_ n1_ n2_
   have n0_ := am (blk_drew BK373.out)
   have n1_ := am (blk_drew BK374.out)
   have n2_ := am (below_drew1 HB.out)
   clear BK373
   clear BK374
   clear HB
   have BK373 := n0_
   have BK374 := n1_
   have HB := n2_
   clear n0_ n1_ n2_
   refine start_ (n := 26) (S := fun w' => w'.cell? ⟨gb373, 0, none⟩ = some (.int .u64 t369) ∧ w'.cell? ⟨gb373, 1, none⟩ = some (.int .u64 t370) ∧ w'.cell? ⟨gb374, 0, none⟩ = some (.int .u64 t371) ∧ w'.cell? ⟨gb374, 1, none⟩ = some (.int .u64 t372)) (ds := []) (ar 26 0) (by kernel_rfl) rfl rfl ⟨(blk_cell BK373.out 0).trans rfl, (blk_cell BK373.out 1).trans rfl, (blk_cell BK374.out 0).trans rfl, (blk_cell BK374.out 1).trans rfl⟩ (fun hHeld => ?_); refine with_tabW wardenlaw03_TnumReckons.tab3 wardenlaw03_TnumReckons.bits3 (fun HT_ HW_ => ?_)
   generalize w38.drew = w39 at BK373 BK374 HB hHeld ⊢
   refine take_ (i := 0) (N := some 25) (v := ?_) (a' := ?_) (ar 26 1) rfl rfl (take_ofW HT_.out HW_.out (by kernel_rfl)) (fun _ _ _ h => h) (Or.inl ⟨by rfl, ?_⟩) hHeld ?_ ?_
   rotate_left
   ·rintro w' ⟨s0, s1, s2, s3⟩
    go_simp
    with_reducible rfl
   rotate_left
   ·simp only [Act.put, q1, q2, q3, i64_w, i32_w]
    rfl
   refine take_ (i := 1) (N := some 26) (v := ?_) (a' := ?_) (ar 26 3) rfl rfl (take_ofW HT_.out HW_.out (by kernel_rfl)) (fun _ _ _ h => h) (Or.inl ⟨by rfl, ?_⟩) hHeld ?_ ?_
   rotate_left
   ·rintro w' ⟨s0, s1, s2, s3⟩
    go_simp
    with_reducible rfl
   rotate_left
   ·simp only [Act.put, q1, q2, q3, i64_w, i32_w]
    rfl
   refine take_ (i := 3) (N := some 28) (v := ?_) (a' := ?_) (ar 26 11) rfl rfl (take_ofW HT_.out HW_.out (by kernel_rfl)) (fun _ _ _ h => h) (Or.inl ⟨by rfl, ?_⟩) hHeld ?_ ?_
   rotate_left
   ·rintro w' ⟨s0, s1, s2, s3⟩
    go_simp
    with_reducible rfl
   rotate_left
   ·simp only [Act.put, q1, q2, q3, i64_w, i32_w]
    rfl
   refine take_ (i := 4) (N := some 29) (v := ?_) (a' := ?_) (ar 26 27) rfl rfl (take_ofW HT_.out HW_.out (by kernel_rfl)) (fun _ _ _ h => h) (Or.inl ⟨by rfl, ?_⟩) hHeld ?_ ?_
   rotate_left
   ·rintro w' ⟨s0, s1, s2, s3⟩
    go_simp
    with_reducible rfl
   rotate_left
   ·simp only [Act.put, q1, q2, q3, i64_w, i32_w]
    rfl
   refine one_ (i := 2) (N := some 27) (ar 26 31) rfl rfl (one_of HT_.out (by kernel_rfl)) (by decide) (fun K hK => ?_)
   refine goes_ Try.func29 (by kernel_rfl) rfl #[.agg #[.int .u64 t369, .int .u64 t370], .agg #[.int .u64 t371, .int .u64 t372]] (by rfl) rfl rfl (by (try simp only [List.map_toArray, List.map_cons, List.map_nil]); first | done | rfl) ?_
   with_reducible refine (tnum_Add.calls t369 t370 t371 t372 t375 t376 _ A16.out).mono ?_
   rintro e w40 ⟨rfl, hb⟩
   refine ⟨_, rfl, ?_⟩
   have n0_ := am (blk_below BK373.out hb)
   have n1_ := am (blk_below BK374.out hb)
   have n2_ := am (below_step (by repeat (first | exact HB.out | refine below_set ?_ GE373.out | refine below_set ?_ GE374.out)) hb)
   clear BK373
   clear BK374
   clear HB
   have BK373 := n0_
   have BK374 := n1_
   have HB := n2_
   clear n0_ n1_ n2_
   (try clear hb)
   (try clear hb2)
   (try clear hk)
   (try clear hi)
   refine hK.out _ _ ⟨(blk_cell BK373.out 0).trans rfl, (blk_cell BK373.out 1).trans rfl, (blk_cell BK374.out 0).trans rfl, (blk_cell BK374.out 1).trans rfl⟩ (fun hHeld => ?_)
   clear hK K
   refine norm_ (a' := ?_) ?_ ?_
   rotate_left
   ·show Act.put _ (some 27) _ = _
    simp only [Act.put, q1, q2, q3, i64_w, i32_w]
    rfl
   refine one_ (i := 5) (N := some 30) (ar 26 63) rfl rfl (one_of HT_.out (by kernel_rfl)) (by decide) (fun K hK => ?_)
   refine goes_ Try.func30 (by kernel_rfl) rfl #[.agg #[.int .u64 t369, .int .u64 t370], .agg #[.int .u64 t371, .int .u64 t372]] (by rfl) rfl rfl (by (try simp only [List.map_toArray, List.map_cons, List.map_nil]); first | done | rfl) ?_
   with_reducible refine (wardenref03_Add.calls t369 t370 t371 t372 t377 t378 _ A17.out).mono ?_
   rintro e w41 ⟨rfl, hb⟩
   refine ⟨_, rfl, ?_⟩
   have n0_ := am (blk_below BK373.out hb)
   have n1_ := am (blk_below BK374.out hb)
   have n2_ := am (below_step (by repeat (first | exact HB.out | refine below_set ?_ GE373.out | refine below_set ?_ GE374.out)) hb)
   clear BK373
   clear BK374
   clear HB
   have BK373 := n0_
   have BK374 := n1_
   have HB := n2_
   clear n0_ n1_ n2_
   (try clear hb)
   (try clear hb2)
   (try clear hk)
   (try clear hi)
   refine hK.out _ _ ⟨(blk_cell BK373.out 0).trans rfl, (blk_cell BK373.out 1).trans rfl, (blk_cell BK374.out 0).trans rfl, (blk_cell BK374.out 1).trans rfl⟩ (fun hHeld => ?_)
   clear hK K
   refine norm_ (a' := ?_) ?_ ?_
   rotate_left
   ·show Act.put _ (some 30) _ = _
    simp only [Act.put, q1, q2, q3, i64_w, i32_w]
    rfl
   refine pure_ (i := 6) (N := some 31) (v := ?_) (a' := ?_) (ar 26 127) rfl rfl (any_of HT_.out (by kernel_rfl)) (fun _ _ _ h => h) (Or.inl ⟨by rfl, ?_⟩) ?_ ?_
   rotate_left
   ·intro w'
    go_simp
    with_reducible rfl
   rotate_left
   ·simp only [Act.put, q1, q2, q3, i64_w, i32_w]
    rfl
   refine pure_ (i := 7) (N := some 32) (v := ?_) (a' := ?_) (ar 26 255) rfl rfl (any_of HT_.out (by kernel_rfl)) (fun _ _ _ h => h) (Or.inl ⟨by rfl, ?_⟩) ?_ ?_
   rotate_left
   ·intro w'
    go_simp
    with_reducible rfl
   rotate_left
   ·simp only [Act.put, q1, q2, q3, i64_w, i32_w]
    rfl
   refine pure_ (i := 8) (N := some 33) (v := undef) (a' := ?_) (ar 26 511) rfl rfl (any_of HT_.out (by kernel_rfl)) (fun _ _ _ h => h) (Or.inr ⟨by rfl, rfl⟩) ?_ ?_
   rotate_left
   ·simp only [Act.put, q1, q2, q3, i64_w, i32_w]
    rfl
   refine pure_ (i := 9) (N := some 34) (v := undef) (a' := ?_) (ar 26 1023) rfl rfl (any_of HT_.out (by kernel_rfl)) (fun _ _ _ h => h) (Or.inr ⟨by rfl, rfl⟩) ?_ ?_
   rotate_left
   ·simp only [Act.put, q1, q2, q3, i64_w, i32_w]
    rfl
   refine pure_ (i := 10) (N := some 35) (v := undef) (a' := ?_) (ar 26 2047) rfl rfl (any_of HT_.out (by kernel_rfl)) (fun _ _ _ h => h) (Or.inr ⟨by rfl, rfl⟩) ?_ ?_
   rotate_left
   ·simp only [Act.put, q1, q2, q3, i64_w, i32_w]
    rfl
   refine pure_ (i := 11) (N := some 36) (v := undef) (a' := ?_) (ar 26 4095) rfl rfl (any_of HT_.out (by kernel_rfl)) (fun _ _ _ h => h) (Or.inr ⟨by rfl, rfl⟩) ?_ ?_
   rotate_left
   ·simp only [Act.put, q1, q2, q3, i64_w, i32_w]
    rfl
   refine pure_ (i := 12) (N := some 37) (v := undef) (a' := ?_) (ar 26 8191) rfl rfl (any_of HT_.out (by kernel_rfl)) (fun _ _ _ h => h) (Or.inr ⟨by rfl, rfl⟩) ?_ ?_
   rotate_left
   ·simp only [Act.put, q1, q2, q3, i64_w, i32_w]
    rfl
   refine pure_ (i := 13) (N := some 38) (v := undef) (a' := ?_) (ar 26 16383) rfl rfl (any_of HT_.out (by kernel_rfl)) (fun _ _ _ h => h) (Or.inr ⟨by rfl, rfl⟩) ?_ ?_
   rotate_left
   ·simp only [Act.put, q1, q2, q3, i64_w, i32_w]
    rfl
   refine pure_ (i := 14) (N := some 39) (v := undef) (a' := ?_) (ar 26 32767) rfl rfl (any_of HT_.out (by kernel_rfl)) (fun _ _ _ h => h) (Or.inr ⟨by rfl, rfl⟩) ?_ ?_
   rotate_left
   ·simp only [Act.put, q1, q2, q3, i64_w, i32_w]
    rfl
   refine pure_ (i := 15) (N := some 40) (v := ?_) (a' := ?_) (ar 26 65535) rfl rfl (any_of HT_.out (by kernel_rfl)) (fun _ _ _ h => h) (Or.inl ⟨by rfl, ?_⟩) ?_ ?_
   rotate_left
   ·intro w'
    go_simp
    with_reducible rfl
   rotate_left
   ·simp only [Act.put, q1, q2, q3, i64_w, i32_w]
    rfl
   refine pure_ (i := 16) (N := some 41) (v := ?_) (a' := ?_) (ar 26 131071) rfl rfl (any_of HT_.out (by kernel_rfl)) (fun _ _ _ h => h) (Or.inl ⟨by rfl, ?_⟩) ?_ ?_
   rotate_left
   ·intro w'
    go_simp
    with_reducible rfl
   rotate_left
   ·simp only [Act.put, q1, q2, q3, i64_w, i32_w]
    rfl
   refine pure_ (i := 17) (N := some 42) (v := undef) (a' := ?_) (ar 26 262143) rfl rfl (any_of HT_.out (by kernel_rfl)) (fun _ _ _ h => h) (Or.inr ⟨by rfl, rfl⟩) ?_ ?_
   rotate_left
   ·simp only [Act.put, q1, q2, q3, i64_w, i32_w]
    rfl
   refine pure_ (i := 18) (N := some 43) (v := undef) (a' := ?_) (ar 26 524287) rfl rfl (any_of HT_.out (by kernel_rfl)) (fun _ _ _ h => h) (Or.inr ⟨by rfl, rfl⟩) ?_ ?_
   rotate_left
   ·simp only [Act.put, q1, q2, q3, i64_w, i32_w]
    rfl
   refine pure_ (i := 19) (N := some 44) (v := undef) (a' := ?_) (ar 26 1048575) rfl rfl (any_of HT_.out (by kernel_rfl)) (fun _ _ _ h => h) (Or.inr ⟨by rfl, rfl⟩) ?_ ?_
   rotate_left
   ·simp only [Act.put, q1, q2, q3, i64_w, i32_w]
    rfl
   refine pure_ (i := 20) (N := some 45) (v := undef) (a' := ?_) (ar 26 2097151) rfl rfl (any_of HT_.out (by kernel_rfl)) (fun _ _ _ h => h) (Or.inr ⟨by rfl, rfl⟩) ?_ ?_
   rotate_left
   ·simp only [Act.put, q1, q2, q3, i64_w, i32_w]
    rfl
   refine pure_ (i := 21) (N := some 46) (v := undef) (a' := ?_) (ar 26 4194303) rfl rfl (any_of HT_.out (by kernel_rfl)) (fun _ _ _ h => h) (Or.inr ⟨by rfl, rfl⟩) ?_ ?_
   rotate_left
   ·simp only [Act.put, q1, q2, q3, i64_w, i32_w]
    rfl
   refine pure_ (i := 22) (N := some 47) (v := undef) (a' := ?_) (ar 26 8388607) rfl rfl (any_of HT_.out (by kernel_rfl)) (fun _ _ _ h => h) (Or.inr ⟨by rfl, rfl⟩) ?_ ?_
   rotate_left
   ·simp only [Act.put, q1, q2, q3, i64_w, i32_w]
    rfl
   refine pure_ (i := 23) (N := some 48) (v := undef) (a' := ?_) (ar 26 16777215) rfl rfl (any_of HT_.out (by kernel_rfl)) (fun _ _ _ h => h) (Or.inr ⟨by rfl, rfl⟩) ?_ ?_
   rotate_left
   ·simp only [Act.put, q1, q2, q3, i64_w, i32_w]
    rfl
   refine pure_ (i := 24) (N := some 49) (v := ?_) (a' := ?_) (ar 26 33554431) rfl rfl (any_of HT_.out (by kernel_rfl)) (fun _ _ _ h => h) (Or.inl ⟨by rfl, ?_⟩) ?_ ?_
   rotate_left
   ·intro w'
    go_simp
    with_reducible rfl
   rotate_left
   ·simp only [Act.put, q1, q2, q3, i64_w, i32_w]
    rfl
   refine pure_ (i := 25) (N := some 14) (v := ?_) (a' := ?_) (ar 26 67108863) rfl rfl (any_of HT_.out (by kernel_rfl)) (fun _ _ _ h => h) (Or.inl ⟨by rfl, ?_⟩) ?_ ?_
   rotate_left
   ·intro w'
    go_simp
    with_reducible rfl
   rotate_left
   ·simp only [Act.put, q1, q2, q3, i64_w, i32_w]
    rfl
   refine done_ (done_of HT_.out (by kernel_rfl)) ?_
   try go_wp2
   go_meet
   case rel => exact ⟨_, (false), (by first | rfl | (simp; done) | (simp [*]; done)), H', ⟨by first | omega | exact Nat.le_refl _⟩, ⟨by (with_reducible repeat (first | refine blk_drewN ?_ _ | refine blk_drew ?_ | refine blk_alloc ?_ _)); exact BK373.out⟩, ⟨by (with_reducible repeat (first | refine blk_drewN ?_ _ | refine blk_drew ?_ | refine blk_alloc ?_ _)); exact BK374.out⟩, ⟨by repeat (first | (with_reducible first | exact HB.out | apply below_alloc | apply pw_below_drewN | apply below_drew1 | refine below_set ?_ GE373.out | refine below_set ?_ GE374.out) | exact HB.out)⟩⟩
 case rest =>
  clear HC8
  try clear c1
  try clear c2
  try clear p2
  try clear c3
  try clear c18
  try clear c18b0
  try clear c18b1
  try clear c18b2
  try clear c21
  try clear c21b0
  try clear c21b1
  try clear c21b2
  try clear c29
  try clear c30
  try clear c31
  try clear c32
  try clear c33
  try clear c34
  obtain ⟨kq, x14_7, rfl, HA, HJ7, BK373, BK374, HB⟩ := hcut
  cases kq with
  | zero => exact absurd HA.out (by simp [wardenlaw03_TnumReckons.j0])
  | succ kj7 =>
   have H := HA.out
   clear HA
   simp only [wardenlaw03_TnumReckons.j0] at H
   have HC42 := am H
   clear H
   go_upto_region 4 with (fail)
   go_cut [15] (fun v15 wc => ∃ (kq : Nat) (x15_41 : Bool), v15 = .bool x15_41 ∧ Aside0 (wardenlaw03_TnumReckons.j1 kq (IntKind.u64.wrap (a4)) x14_7 x15_41 t369 t370 = some r) ∧ Aside0 (kq ≤ kj7) ∧ Aside0 (wc.heap[gb373]? = some (.cells #[.int .u64 t369, .int .u64 t370] 24 (0, 0))) ∧ Aside0 (wc.heap[gb374]? = some (.cells #[.int .u64 t371, .int .u64 t372] 24 (0, 0))) ∧ Aside0 (Below w.heap.size w wc))
   case first =>
    have H := HC42.out
    clear HC42
    replace H := Option.bind_eq_some_iff.mp H
    obtain ⟨⟨t387, t388⟩, A430, H⟩ := H
    try dsimp only at H
    have A43 := am A430
    clear A430
    replace H := Option.bind_eq_some_iff.mp H
    obtain ⟨⟨t389, t390⟩, A440, H⟩ := H
    try dsimp only at H
    have A44 := am A440
    clear A440
    by_cases c45 : (t387 == t389 && (t388 == t390)) = true
    ·rw [if_pos c45] at H
     have c45b0 : (t387 == t389 && (t388 == t390)) = true := c45
     (try (have c45b1 : decide (t387 = t389 && (t388 == t390)) = true := by simpa using c45))
     (try (have c45b2 : (t387 == t389 && (t388 == t390)) = true := by simpa using c45))
     clear c45
     (first | rw [c45b0] | (simp only [i64_w, i32_w]; rw [c45b0]) | skip)
     replace H := Option.bind_eq_some_iff.mp H
     obtain ⟨⟨t391, t392⟩, A460, H⟩ := H
     try dsimp only at H
     have A46 := am A460
     clear A460
     replace H := Option.bind_eq_some_iff.mp H
     obtain ⟨⟨t393, t394⟩, A470, H⟩ := H
     try dsimp only at H
     have A47 := am A470
     clear A470
     by_cases c48 : (t391 == t393 && (t392 == t394)) = true
     ·rw [if_pos c48] at H
      have c48b0 : (t391 == t393 && (t392 == t394)) = true := c48
      (try (have c48b1 : decide (t391 = t393 && (t392 == t394)) = true := by simpa using c48))
      (try (have c48b2 : (t391 == t393 && (t392 == t394)) = true := by simpa using c48))
      clear c48
      replace H := Option.bind_eq_some_iff.mp H
      obtain ⟨⟨t395, t396⟩, A490, H⟩ := H
      try dsimp only at H
      have A49 := am A490
      clear A490
      replace H := Option.bind_eq_some_iff.mp H
      obtain ⟨⟨t397, t398⟩, A500, H⟩ := H
      try dsimp only at H
      have A50 := am A500
      clear A500
      have H' := am H
      clear H
      try go_wp2
      have n0_ := am (blk_drew BK373.out)
      have n1_ := am (blk_drew BK374.out)
      have n2_ := am (below_drew1 HB.out)
      clear BK373
      clear BK374
      clear HB
      have BK373 := n0_
      have BK374 := n1_
      have HB := n2_
      clear n0_ n1_ n2_
      refine start_ (n := 26) (S := fun w' => w'.cell? ⟨gb373, 0, none⟩ = some (.int .u64 t369) ∧ w'.cell? ⟨gb373, 1, none⟩ = some (.int .u64 t370) ∧ w'.cell? ⟨gb374, 0, none⟩ = some (.int .u64 t371) ∧ w'.cell? ⟨gb374, 1, none⟩ = some (.int .u64 t372)) (ds := []) (ar 26 0) (by kernel_rfl) rfl rfl ⟨(blk_cell BK373.out 0).trans rfl, (blk_cell BK373.out 1).trans rfl, (blk_cell BK374.out 0).trans rfl, (blk_cell BK374.out 1).trans rfl⟩ (fun hHeld => ?_); refine with_tabW wardenlaw03_TnumReckons.tab4 wardenlaw03_TnumReckons.bits4 (fun HT_ HW_ => ?_)
      generalize wc.drew = w51 at BK373 BK374 HB hHeld ⊢
      refine take_ (i := 0) (N := some 50) (v := ?_) (a' := ?_) (ar 26 1) rfl rfl (take_ofW HT_.out HW_.out (by kernel_rfl)) (fun _ _ _ h => h) (Or.inl ⟨by rfl, ?_⟩) hHeld ?_ ?_
      rotate_left
      ·rintro w' ⟨s0, s1, s2, s3⟩
       go_simp
       with_reducible rfl
      rotate_left
      ·simp only [Act.put, q1, q2, q3, i64_w, i32_w]
       rfl
      refine take_ (i := 1) (N := some 51) (v := ?_) (a' := ?_) (ar 26 3) rfl rfl (take_ofW HT_.out HW_.out (by kernel_rfl)) (fun _ _ _ h => h) (Or.inl ⟨by rfl, ?_⟩) hHeld ?_ ?_
      rotate_left
      ·rintro w' ⟨s0, s1, s2, s3⟩
       go_simp
       with_reducible rfl
      rotate_left
      ·simp only [Act.put, q1, q2, q3, i64_w, i32_w]
       rfl
      refine take_ (i := 3) (N := some 53) (v := ?_) (a' := ?_) (ar 26 11) rfl rfl (take_ofW HT_.out HW_.out (by kernel_rfl)) (fun _ _ _ h => h) (Or.inl ⟨by rfl, ?_⟩) hHeld ?_ ?_
      rotate_left
      ·rintro w' ⟨s0, s1, s2, s3⟩
       go_simp
       with_reducible rfl
      rotate_left
      ·simp only [Act.put, q1, q2, q3, i64_w, i32_w]
       rfl
      refine take_ (i := 4) (N := some 54) (v := ?_) (a' := ?_) (ar 26 27) rfl rfl (take_ofW HT_.out HW_.out (by kernel_rfl)) (fun _ _ _ h => h) (Or.inl ⟨by rfl, ?_⟩) hHeld ?_ ?_
      rotate_left
      ·rintro w' ⟨s0, s1, s2, s3⟩
       go_simp
       with_reducible rfl
      rotate_left
      ·simp only [Act.put, q1, q2, q3, i64_w, i32_w]
       rfl
      refine one_ (i := 2) (N := some 52) (ar 26 31) rfl rfl (one_of HT_.out (by kernel_rfl)) (by decide) (fun K hK => ?_)
      refine goes_ Try.func27 (by kernel_rfl) rfl #[.agg #[.int .u64 t369, .int .u64 t370], .agg #[.int .u64 t371, .int .u64 t372]] (by rfl) rfl rfl (by (try simp only [List.map_toArray, List.map_cons, List.map_nil]); first | done | rfl) ?_
      with_reducible refine (tnum_And.calls t369 t370 t371 t372 t387 t388 _ A43.out).mono ?_
      rintro e w52 ⟨rfl, hb⟩
      refine ⟨_, rfl, ?_⟩
      have n0_ := am (blk_below BK373.out hb)
      have n1_ := am (blk_below BK374.out hb)
      have n2_ := am (below_step (by repeat (first | exact HB.out | refine below_set ?_ GE373.out | refine below_set ?_ GE374.out)) hb)
      clear BK373
      clear BK374
      clear HB
      have BK373 := n0_
      have BK374 := n1_
      have HB := n2_
      clear n0_ n1_ n2_
      (try clear hb)
      (try clear hb2)
      (try clear hk)
      (try clear hi)
      refine hK.out _ _ ⟨(blk_cell BK373.out 0).trans rfl, (blk_cell BK373.out 1).trans rfl, (blk_cell BK374.out 0).trans rfl, (blk_cell BK374.out 1).trans rfl⟩ (fun hHeld => ?_)
      clear hK K
      refine norm_ (a' := ?_) ?_ ?_
      rotate_left
      ·show Act.put _ (some 52) _ = _
       simp only [Act.put, q1, q2, q3, i64_w, i32_w]
       rfl
      refine one_ (i := 5) (N := some 55) (ar 26 63) rfl rfl (one_of HT_.out (by kernel_rfl)) (by decide) (fun K hK => ?_)
      refine goes_ Try.func21 (by kernel_rfl) rfl #[.agg #[.int .u64 t369, .int .u64 t370], .agg #[.int .u64 t371, .int .u64 t372], .int .i64 1] (by rfl) rfl rfl (by (try simp only [List.map_toArray, List.map_cons, List.map_nil]); first | done | rfl) ?_
      with_reducible refine (wardenref03_Bits.calls kj7 t369 t370 t371 t372 1 t389 t390 _ A44.out).mono ?_
      rintro e w53 ⟨rfl, hb⟩
      refine ⟨_, rfl, ?_⟩
      have n0_ := am (blk_below BK373.out hb)
      have n1_ := am (blk_below BK374.out hb)
      have n2_ := am (below_step (by repeat (first | exact HB.out | refine below_set ?_ GE373.out | refine below_set ?_ GE374.out)) hb)
      clear BK373
      clear BK374
      clear HB
      have BK373 := n0_
      have BK374 := n1_
      have HB := n2_
      clear n0_ n1_ n2_
      (try clear hb)
      (try clear hb2)
      (try clear hk)
      (try clear hi)
      refine hK.out _ _ ⟨(blk_cell BK373.out 0).trans rfl, (blk_cell BK373.out 1).trans rfl, (blk_cell BK374.out 0).trans rfl, (blk_cell BK374.out 1).trans rfl⟩ (fun hHeld => ?_)
      clear hK K
      refine norm_ (a' := ?_) ?_ ?_
      rotate_left
      ·show Act.put _ (some 55) _ = _
       simp only [Act.put, q1, q2, q3, i64_w, i32_w]
       rfl
      refine pure_ (i := 6) (N := some 56) (v := ?_) (a' := ?_) (ar 26 127) rfl rfl (any_of HT_.out (by kernel_rfl)) (fun _ _ _ h => h) (Or.inl ⟨by rfl, ?_⟩) ?_ ?_
      rotate_left
      ·intro w'
       go_simp
       with_reducible rfl
      rotate_left
      ·simp only [Act.put, q1, q2, q3, i64_w, i32_w]
       rfl
      refine pure_ (i := 7) (N := some 57) (v := ?_) (a' := ?_) (ar 26 255) rfl rfl (any_of HT_.out (by kernel_rfl)) (fun _ _ _ h => h) (Or.inl ⟨by rfl, ?_⟩) ?_ ?_
      rotate_left
      ·intro w'
       go_simp
       with_reducible rfl
      rotate_left
      ·simp only [Act.put, q1, q2, q3, i64_w, i32_w]
       rfl
      refine take_ (i := 8) (N := some 58) (v := ?_) (a' := ?_) (ar 26 511) rfl rfl (take_ofW HT_.out HW_.out (by kernel_rfl)) (fun _ _ _ h => h) (Or.inl ⟨by rfl, ?_⟩) hHeld ?_ ?_
      rotate_left
      ·rintro w' ⟨s0, s1, s2, s3⟩
       go_simp
       with_reducible rfl
      rotate_left
      ·simp only [Act.put, q1, q2, q3, i64_w, i32_w]
       rfl
      refine take_ (i := 9) (N := some 59) (v := ?_) (a' := ?_) (ar 26 1023) rfl rfl (take_ofW HT_.out HW_.out (by kernel_rfl)) (fun _ _ _ h => h) (Or.inl ⟨by rfl, ?_⟩) hHeld ?_ ?_
      rotate_left
      ·rintro w' ⟨s0, s1, s2, s3⟩
       go_simp
       with_reducible rfl
      rotate_left
      ·simp only [Act.put, q1, q2, q3, i64_w, i32_w]
       rfl
      refine take_ (i := 11) (N := some 61) (v := ?_) (a' := ?_) (ar 26 3071) rfl rfl (take_ofW HT_.out HW_.out (by kernel_rfl)) (fun _ _ _ h => h) (Or.inl ⟨by rfl, ?_⟩) hHeld ?_ ?_
      rotate_left
      ·rintro w' ⟨s0, s1, s2, s3⟩
       go_simp
       with_reducible rfl
      rotate_left
      ·simp only [Act.put, q1, q2, q3, i64_w, i32_w]
       rfl
      refine take_ (i := 12) (N := some 62) (v := ?_) (a' := ?_) (ar 26 7167) rfl rfl (take_ofW HT_.out HW_.out (by kernel_rfl)) (fun _ _ _ h => h) (Or.inl ⟨by rfl, ?_⟩) hHeld ?_ ?_
      rotate_left
      ·rintro w' ⟨s0, s1, s2, s3⟩
       go_simp
       with_reducible rfl
      rotate_left
      ·simp only [Act.put, q1, q2, q3, i64_w, i32_w]
       rfl
      refine one_ (i := 10) (N := some 60) (ar 26 8191) rfl rfl (one_of HT_.out (by kernel_rfl)) (by decide) (fun K hK => ?_)
      refine goes_ Try.func35 (by kernel_rfl) rfl #[.agg #[.int .u64 t369, .int .u64 t370], .agg #[.int .u64 t371, .int .u64 t372]] (by rfl) rfl rfl (by (try simp only [List.map_toArray, List.map_cons, List.map_nil]); first | done | rfl) ?_
      with_reducible refine (tnum_Or.calls t369 t370 t371 t372 t391 t392 _ A46.out).mono ?_
      rintro e w54 ⟨rfl, hb⟩
      refine ⟨_, rfl, ?_⟩
      have n0_ := am (blk_below BK373.out hb)
      have n1_ := am (blk_below BK374.out hb)
      have n2_ := am (below_step (by repeat (first | exact HB.out | refine below_set ?_ GE373.out | refine below_set ?_ GE374.out)) hb)
      clear BK373
      clear BK374
      clear HB
      have BK373 := n0_
      have BK374 := n1_
      have HB := n2_
      clear n0_ n1_ n2_
      (try clear hb)
      (try clear hb2)
      (try clear hk)
      (try clear hi)
      refine hK.out _ _ ⟨(blk_cell BK373.out 0).trans rfl, (blk_cell BK373.out 1).trans rfl, (blk_cell BK374.out 0).trans rfl, (blk_cell BK374.out 1).trans rfl⟩ (fun hHeld => ?_)
      clear hK K
      refine norm_ (a' := ?_) ?_ ?_
      rotate_left
      ·show Act.put _ (some 60) _ = _
       simp only [Act.put, q1, q2, q3, i64_w, i32_w]
       rfl
      refine one_ (i := 13) (N := some 63) (ar 26 16383) rfl rfl (one_of HT_.out (by kernel_rfl)) (by decide) (fun K hK => ?_)
      refine goes_ Try.func21 (by kernel_rfl) rfl #[.agg #[.int .u64 t369, .int .u64 t370], .agg #[.int .u64 t371, .int .u64 t372], .int .i64 2] (by rfl) rfl rfl (by (try simp only [List.map_toArray, List.map_cons, List.map_nil]); first | done | rfl) ?_
      with_reducible refine (wardenref03_Bits.calls kj7 t369 t370 t371 t372 2 t393 t394 _ A47.out).mono ?_
      rintro e w55 ⟨rfl, hb⟩
      refine ⟨_, rfl, ?_⟩
      have n0_ := am (blk_below BK373.out hb)
      have n1_ := am (blk_below BK374.out hb)
      have n2_ := am (below_step (by repeat (first | exact HB.out | refine below_set ?_ GE373.out | refine below_set ?_ GE374.out)) hb)
      clear BK373
      clear BK374
      clear HB
      have BK373 := n0_
      have BK374 := n1_
      have HB := n2_
      clear n0_ n1_ n2_
      (try clear hb)
      (try clear hb2)
      (try clear hk)
      (try clear hi)
      refine hK.out _ _ ⟨(blk_cell BK373.out 0).trans rfl, (blk_cell BK373.out 1).trans rfl, (blk_cell BK374.out 0).trans rfl, (blk_cell BK374.out 1).trans rfl⟩ (fun hHeld => ?_)
      clear hK K
      refine norm_ (a' := ?_) ?_ ?_
      rotate_left
      ·show Act.put _ (some 63) _ = _
       simp only [Act.put, q1, q2, q3, i64_w, i32_w]
       rfl
      refine pure_ (i := 14) (N := some 64) (v := ?_) (a' := ?_) (ar 26 32767) rfl rfl (any_of HT_.out (by kernel_rfl)) (fun _ _ _ h => h) (Or.inl ⟨by rfl, ?_⟩) ?_ ?_
      rotate_left
      ·intro w'
       go_simp
       with_reducible rfl
      rotate_left
      ·simp only [Act.put, q1, q2, q3, i64_w, i32_w]
       rfl
      refine pure_ (i := 15) (N := some 65) (v := ?_) (a' := ?_) (ar 26 65535) rfl rfl (any_of HT_.out (by kernel_rfl)) (fun _ _ _ h => h) (Or.inl ⟨by rfl, ?_⟩) ?_ ?_
      rotate_left
      ·intro w'
       go_simp
       with_reducible rfl
      rotate_left
      ·simp only [Act.put, q1, q2, q3, i64_w, i32_w]
       rfl
      refine pure_ (i := 16) (N := some 66) (v := ?_) (a' := ?_) (ar 26 131071) rfl rfl (any_of HT_.out (by kernel_rfl)) (fun _ _ _ h => h) (Or.inl ⟨by rfl, ?_⟩) ?_ ?_
      rotate_left
      ·intro w'
       go_simp
       with_reducible rfl
      rotate_left
      ·simp only [Act.put, q1, q2, q3, i64_w, i32_w]
       rfl
      refine take_ (i := 17) (N := some 67) (v := ?_) (a' := ?_) (ar 26 262143) rfl rfl (take_ofW HT_.out HW_.out (by kernel_rfl)) (fun _ _ _ h => h) (Or.inl ⟨by rfl, ?_⟩) hHeld ?_ ?_
      rotate_left
      ·rintro w' ⟨s0, s1, s2, s3⟩
       go_simp
       with_reducible rfl
      rotate_left
      ·simp only [Act.put, q1, q2, q3, i64_w, i32_w]
       rfl
      refine take_ (i := 18) (N := some 68) (v := ?_) (a' := ?_) (ar 26 524287) rfl rfl (take_ofW HT_.out HW_.out (by kernel_rfl)) (fun _ _ _ h => h) (Or.inl ⟨by rfl, ?_⟩) hHeld ?_ ?_
      rotate_left
      ·rintro w' ⟨s0, s1, s2, s3⟩
       go_simp
       with_reducible rfl
      rotate_left
      ·simp only [Act.put, q1, q2, q3, i64_w, i32_w]
       rfl
      refine take_ (i := 20) (N := some 70) (v := ?_) (a' := ?_) (ar 26 1572863) rfl rfl (take_ofW HT_.out HW_.out (by kernel_rfl)) (fun _ _ _ h => h) (Or.inl ⟨by rfl, ?_⟩) hHeld ?_ ?_
      rotate_left
      ·rintro w' ⟨s0, s1, s2, s3⟩
       go_simp
       with_reducible rfl
      rotate_left
      ·simp only [Act.put, q1, q2, q3, i64_w, i32_w]
       rfl
      refine take_ (i := 21) (N := some 71) (v := ?_) (a' := ?_) (ar 26 3670015) rfl rfl (take_ofW HT_.out HW_.out (by kernel_rfl)) (fun _ _ _ h => h) (Or.inl ⟨by rfl, ?_⟩) hHeld ?_ ?_
      rotate_left
      ·rintro w' ⟨s0, s1, s2, s3⟩
       go_simp
       with_reducible rfl
      rotate_left
      ·simp only [Act.put, q1, q2, q3, i64_w, i32_w]
       rfl
      refine one_ (i := 19) (N := some 69) (ar 26 4194303) rfl rfl (one_of HT_.out (by kernel_rfl)) (by decide) (fun K hK => ?_)
      refine goes_ Try.func36 (by kernel_rfl) rfl #[.agg #[.int .u64 t369, .int .u64 t370], .agg #[.int .u64 t371, .int .u64 t372]] (by rfl) rfl rfl (by (try simp only [List.map_toArray, List.map_cons, List.map_nil]); first | done | rfl) ?_
      with_reducible refine (tnum_Xor.calls t369 t370 t371 t372 t395 t396 _ A49.out).mono ?_
      rintro e w56 ⟨rfl, hb⟩
      refine ⟨_, rfl, ?_⟩
      have n0_ := am (blk_below BK373.out hb)
      have n1_ := am (blk_below BK374.out hb)
      have n2_ := am (below_step (by repeat (first | exact HB.out | refine below_set ?_ GE373.out | refine below_set ?_ GE374.out)) hb)
      clear BK373
      clear BK374
      clear HB
      have BK373 := n0_
      have BK374 := n1_
      have HB := n2_
      clear n0_ n1_ n2_
      (try clear hb)
      (try clear hb2)
      (try clear hk)
      (try clear hi)
      refine hK.out _ _ ⟨(blk_cell BK373.out 0).trans rfl, (blk_cell BK373.out 1).trans rfl, (blk_cell BK374.out 0).trans rfl, (blk_cell BK374.out 1).trans rfl⟩ (fun hHeld => ?_)
      clear hK K
      refine norm_ (a' := ?_) ?_ ?_
      rotate_left
      ·show Act.put _ (some 69) _ = _
       simp only [Act.put, q1, q2, q3, i64_w, i32_w]
       rfl
      refine one_ (i := 22) (N := some 72) (ar 26 8388607) rfl rfl (one_of HT_.out (by kernel_rfl)) (by decide) (fun K hK => ?_)
      refine goes_ Try.func21 (by kernel_rfl) rfl #[.agg #[.int .u64 t369, .int .u64 t370], .agg #[.int .u64 t371, .int .u64 t372], .int .i64 3] (by rfl) rfl rfl (by (try simp only [List.map_toArray, List.map_cons, List.map_nil]); first | done | rfl) ?_
      with_reducible refine (wardenref03_Bits.calls kj7 t369 t370 t371 t372 3 t397 t398 _ A50.out).mono ?_
      rintro e w57 ⟨rfl, hb⟩
      refine ⟨_, rfl, ?_⟩
      have n0_ := am (blk_below BK373.out hb)
      have n1_ := am (blk_below BK374.out hb)
      have n2_ := am (below_step (by repeat (first | exact HB.out | refine below_set ?_ GE373.out | refine below_set ?_ GE374.out)) hb)
      clear BK373
      clear BK374
      clear HB
      have BK373 := n0_
      have BK374 := n1_
      have HB := n2_
      clear n0_ n1_ n2_
      (try clear hb)
      (try clear hb2)
      (try clear hk)
      (try clear hi)
      refine hK.out _ _ ⟨(blk_cell BK373.out 0).trans rfl, (blk_cell BK373.out 1).trans rfl, (blk_cell BK374.out 0).trans rfl, (blk_cell BK374.out 1).trans rfl⟩ (fun hHeld => ?_)
      clear hK K
      refine norm_ (a' := ?_) ?_ ?_
      rotate_left
      ·show Act.put _ (some 72) _ = _
       simp only [Act.put, q1, q2, q3, i64_w, i32_w]
       rfl
      refine pure_ (i := 23) (N := some 73) (v := ?_) (a' := ?_) (ar 26 16777215) rfl rfl (any_of HT_.out (by kernel_rfl)) (fun _ _ _ h => h) (Or.inl ⟨by rfl, ?_⟩) ?_ ?_
      rotate_left
      ·intro w'
       go_simp
       with_reducible rfl
      rotate_left
      ·simp only [Act.put, q1, q2, q3, i64_w, i32_w]
       rfl
      refine pure_ (i := 24) (N := some 74) (v := ?_) (a' := ?_) (ar 26 33554431) rfl rfl (any_of HT_.out (by kernel_rfl)) (fun _ _ _ h => h) (Or.inl ⟨by rfl, ?_⟩) ?_ ?_
      rotate_left
      ·intro w'
       go_simp
       with_reducible rfl
      rotate_left
      ·simp only [Act.put, q1, q2, q3, i64_w, i32_w]
       rfl
      refine pure_ (i := 25) (N := some 15) (v := ?_) (a' := ?_) (ar 26 67108863) rfl rfl (any_of HT_.out (by kernel_rfl)) (fun _ _ _ h => h) (Or.inl ⟨by rfl, ?_⟩) ?_ ?_
      rotate_left
      ·intro w'
       go_simp
       with_reducible rfl
      rotate_left
      ·simp only [Act.put, q1, q2, q3, i64_w, i32_w]
       rfl
      refine done_ (done_of HT_.out (by kernel_rfl)) ?_
      try go_wp2
      go_meet
      case rel => exact ⟨_, ((t395 == t397 && (t396 == t398))), (by first | rfl | (simp; done) | (simp [*]; done)), H', ⟨by have := HJ7.out; first | omega | exact Nat.le_refl _⟩, ⟨by (with_reducible repeat (first | refine blk_drewN ?_ _ | refine blk_drew ?_ | refine blk_alloc ?_ _)); exact BK373.out⟩, ⟨by (with_reducible repeat (first | refine blk_drewN ?_ _ | refine blk_drew ?_ | refine blk_alloc ?_ _)); exact BK374.out⟩, ⟨by repeat (first | (with_reducible first | exact HB.out | apply below_alloc | apply pw_below_drewN | apply below_drew1 | refine below_set ?_ GE373.out | refine below_set ?_ GE374.out) | exact HB.out)⟩⟩
     ·rw [if_neg c48] at H
      have c48b0 : (t391 == t393 && (t392 == t394)) = false := by simpa using c48
      (try (have c48b1 : decide (t391 = t393 && (t392 == t394)) = false := by simpa using c48))
      (try (have c48b2 : (t391 == t393 && (t392 == t394)) = false := by simpa using c48))
      (try (have c48b3 : ¬ (t391 = t393 && (t392 == t394)) := by simpa using c48))
      clear c48
      have H' := am H
      clear H
      try go_wp2
      have n0_ := am (blk_drew BK373.out)
      have n1_ := am (blk_drew BK374.out)
      have n2_ := am (below_drew1 HB.out)
      clear BK373
      clear BK374
      clear HB
      have BK373 := n0_
      have BK374 := n1_
      have HB := n2_
      clear n0_ n1_ n2_
      refine start_ (n := 26) (S := fun w' => w'.cell? ⟨gb373, 0, none⟩ = some (.int .u64 t369) ∧ w'.cell? ⟨gb373, 1, none⟩ = some (.int .u64 t370) ∧ w'.cell? ⟨gb374, 0, none⟩ = some (.int .u64 t371) ∧ w'.cell? ⟨gb374, 1, none⟩ = some (.int .u64 t372)) (ds := []) (ar 26 0) (by kernel_rfl) rfl rfl ⟨(blk_cell BK373.out 0).trans rfl, (blk_cell BK373.out 1).trans rfl, (blk_cell BK374.out 0).trans rfl, (blk_cell BK374.out 1).trans rfl⟩ (fun hHeld => ?_); refine with_tabW wardenlaw03_TnumReckons.tab4 wardenlaw03_TnumReckons.bits4 (fun HT_ HW_ => ?_)
      generalize wc.drew = w58 at BK373 BK374 HB hHeld ⊢
      refine take_ (i := 0) (N := some 50) (v := ?_) (a' := ?_) (ar 26 1) rfl rfl (take_ofW HT_.out HW_.out (by kernel_rfl)) (fun _ _ _ h => h) (Or.inl ⟨by rfl, ?_⟩) hHeld ?_ ?_
      rotate_left
      ·rintro w' ⟨s0, s1, s2, s3⟩
       go_simp
       with_reducible rfl
      rotate_left
      ·simp only [Act.put, q1, q2, q3, i64_w, i32_w]
       rfl
      refine take_ (i := 1) (N := some 51) (v := ?_) (a' := ?_) (ar 26 3) rfl rfl (take_ofW HT_.out HW_.out (by kernel_rfl)) (fun _ _ _ h => h) (Or.inl ⟨by rfl, ?_⟩) hHeld ?_ ?_
      rotate_left
      ·rintro w' ⟨s0, s1, s2, s3⟩
       go_simp
       with_reducible rfl
      rotate_left
      ·simp only [Act.put, q1, q2, q3, i64_w, i32_w]
       rfl
      refine take_ (i := 3) (N := some 53) (v := ?_) (a' := ?_) (ar 26 11) rfl rfl (take_ofW HT_.out HW_.out (by kernel_rfl)) (fun _ _ _ h => h) (Or.inl ⟨by rfl, ?_⟩) hHeld ?_ ?_
      rotate_left
      ·rintro w' ⟨s0, s1, s2, s3⟩
       go_simp
       with_reducible rfl
      rotate_left
      ·simp only [Act.put, q1, q2, q3, i64_w, i32_w]
       rfl
      refine take_ (i := 4) (N := some 54) (v := ?_) (a' := ?_) (ar 26 27) rfl rfl (take_ofW HT_.out HW_.out (by kernel_rfl)) (fun _ _ _ h => h) (Or.inl ⟨by rfl, ?_⟩) hHeld ?_ ?_
      rotate_left
      ·rintro w' ⟨s0, s1, s2, s3⟩
       go_simp
       with_reducible rfl
      rotate_left
      ·simp only [Act.put, q1, q2, q3, i64_w, i32_w]
       rfl
      refine one_ (i := 2) (N := some 52) (ar 26 31) rfl rfl (one_of HT_.out (by kernel_rfl)) (by decide) (fun K hK => ?_)
      refine goes_ Try.func27 (by kernel_rfl) rfl #[.agg #[.int .u64 t369, .int .u64 t370], .agg #[.int .u64 t371, .int .u64 t372]] (by rfl) rfl rfl (by (try simp only [List.map_toArray, List.map_cons, List.map_nil]); first | done | rfl) ?_
      with_reducible refine (tnum_And.calls t369 t370 t371 t372 t387 t388 _ A43.out).mono ?_
      rintro e w59 ⟨rfl, hb⟩
      refine ⟨_, rfl, ?_⟩
      have n0_ := am (blk_below BK373.out hb)
      have n1_ := am (blk_below BK374.out hb)
      have n2_ := am (below_step (by repeat (first | exact HB.out | refine below_set ?_ GE373.out | refine below_set ?_ GE374.out)) hb)
      clear BK373
      clear BK374
      clear HB
      have BK373 := n0_
      have BK374 := n1_
      have HB := n2_
      clear n0_ n1_ n2_
      (try clear hb)
      (try clear hb2)
      (try clear hk)
      (try clear hi)
      refine hK.out _ _ ⟨(blk_cell BK373.out 0).trans rfl, (blk_cell BK373.out 1).trans rfl, (blk_cell BK374.out 0).trans rfl, (blk_cell BK374.out 1).trans rfl⟩ (fun hHeld => ?_)
      clear hK K
      refine norm_ (a' := ?_) ?_ ?_
      rotate_left
      ·show Act.put _ (some 52) _ = _
       simp only [Act.put, q1, q2, q3, i64_w, i32_w]
       rfl
      refine one_ (i := 5) (N := some 55) (ar 26 63) rfl rfl (one_of HT_.out (by kernel_rfl)) (by decide) (fun K hK => ?_)
      refine goes_ Try.func21 (by kernel_rfl) rfl #[.agg #[.int .u64 t369, .int .u64 t370], .agg #[.int .u64 t371, .int .u64 t372], .int .i64 1] (by rfl) rfl rfl (by (try simp only [List.map_toArray, List.map_cons, List.map_nil]); first | done | rfl) ?_
      with_reducible refine (wardenref03_Bits.calls kj7 t369 t370 t371 t372 1 t389 t390 _ A44.out).mono ?_
      rintro e w60 ⟨rfl, hb⟩
      refine ⟨_, rfl, ?_⟩
      have n0_ := am (blk_below BK373.out hb)
      have n1_ := am (blk_below BK374.out hb)
      have n2_ := am (below_step (by repeat (first | exact HB.out | refine below_set ?_ GE373.out | refine below_set ?_ GE374.out)) hb)
      clear BK373
      clear BK374
      clear HB
      have BK373 := n0_
      have BK374 := n1_
      have HB := n2_
      clear n0_ n1_ n2_
      (try clear hb)
      (try clear hb2)
      (try clear hk)
      (try clear hi)
      refine hK.out _ _ ⟨(blk_cell BK373.out 0).trans rfl, (blk_cell BK373.out 1).trans rfl, (blk_cell BK374.out 0).trans rfl, (blk_cell BK374.out 1).trans rfl⟩ (fun hHeld => ?_)
      clear hK K
      refine norm_ (a' := ?_) ?_ ?_
      rotate_left
      ·show Act.put _ (some 55) _ = _
       simp only [Act.put, q1, q2, q3, i64_w, i32_w]
       rfl
      refine pure_ (i := 6) (N := some 56) (v := ?_) (a' := ?_) (ar 26 127) rfl rfl (any_of HT_.out (by kernel_rfl)) (fun _ _ _ h => h) (Or.inl ⟨by rfl, ?_⟩) ?_ ?_
      rotate_left
      ·intro w'
       go_simp
       with_reducible rfl
      rotate_left
      ·simp only [Act.put, q1, q2, q3, i64_w, i32_w]
       rfl
      refine pure_ (i := 7) (N := some 57) (v := ?_) (a' := ?_) (ar 26 255) rfl rfl (any_of HT_.out (by kernel_rfl)) (fun _ _ _ h => h) (Or.inl ⟨by rfl, ?_⟩) ?_ ?_
      rotate_left
      ·intro w'
       go_simp
       with_reducible rfl
      rotate_left
      ·simp only [Act.put, q1, q2, q3, i64_w, i32_w]
       rfl
      refine take_ (i := 8) (N := some 58) (v := ?_) (a' := ?_) (ar 26 511) rfl rfl (take_ofW HT_.out HW_.out (by kernel_rfl)) (fun _ _ _ h => h) (Or.inl ⟨by rfl, ?_⟩) hHeld ?_ ?_
      rotate_left
      ·rintro w' ⟨s0, s1, s2, s3⟩
       go_simp
       with_reducible rfl
      rotate_left
      ·simp only [Act.put, q1, q2, q3, i64_w, i32_w]
       rfl
      refine take_ (i := 9) (N := some 59) (v := ?_) (a' := ?_) (ar 26 1023) rfl rfl (take_ofW HT_.out HW_.out (by kernel_rfl)) (fun _ _ _ h => h) (Or.inl ⟨by rfl, ?_⟩) hHeld ?_ ?_
      rotate_left
      ·rintro w' ⟨s0, s1, s2, s3⟩
       go_simp
       with_reducible rfl
      rotate_left
      ·simp only [Act.put, q1, q2, q3, i64_w, i32_w]
       rfl
      refine take_ (i := 11) (N := some 61) (v := ?_) (a' := ?_) (ar 26 3071) rfl rfl (take_ofW HT_.out HW_.out (by kernel_rfl)) (fun _ _ _ h => h) (Or.inl ⟨by rfl, ?_⟩) hHeld ?_ ?_
      rotate_left
      ·rintro w' ⟨s0, s1, s2, s3⟩
       go_simp
       with_reducible rfl
      rotate_left
      ·simp only [Act.put, q1, q2, q3, i64_w, i32_w]
       rfl
      refine take_ (i := 12) (N := some 62) (v := ?_) (a' := ?_) (ar 26 7167) rfl rfl (take_ofW HT_.out HW_.out (by kernel_rfl)) (fun _ _ _ h => h) (Or.inl ⟨by rfl, ?_⟩) hHeld ?_ ?_
      rotate_left
      ·rintro w' ⟨s0, s1, s2, s3⟩
       go_simp
       with_reducible rfl
      rotate_left
      ·simp only [Act.put, q1, q2, q3, i64_w, i32_w]
       rfl
      refine one_ (i := 10) (N := some 60) (ar 26 8191) rfl rfl (one_of HT_.out (by kernel_rfl)) (by decide) (fun K hK => ?_)
      refine goes_ Try.func35 (by kernel_rfl) rfl #[.agg #[.int .u64 t369, .int .u64 t370], .agg #[.int .u64 t371, .int .u64 t372]] (by rfl) rfl rfl (by (try simp only [List.map_toArray, List.map_cons, List.map_nil]); first | done | rfl) ?_
      with_reducible refine (tnum_Or.calls t369 t370 t371 t372 t391 t392 _ A46.out).mono ?_
      rintro e w61 ⟨rfl, hb⟩
      refine ⟨_, rfl, ?_⟩
      have n0_ := am (blk_below BK373.out hb)
      have n1_ := am (blk_below BK374.out hb)
      have n2_ := am (below_step (by repeat (first | exact HB.out | refine below_set ?_ GE373.out | refine below_set ?_ GE374.out)) hb)
      clear BK373
      clear BK374
      clear HB
      have BK373 := n0_
      have BK374 := n1_
      have HB := n2_
      clear n0_ n1_ n2_
      (try clear hb)
      (try clear hb2)
      (try clear hk)
      (try clear hi)
      refine hK.out _ _ ⟨(blk_cell BK373.out 0).trans rfl, (blk_cell BK373.out 1).trans rfl, (blk_cell BK374.out 0).trans rfl, (blk_cell BK374.out 1).trans rfl⟩ (fun hHeld => ?_)
      clear hK K
      refine norm_ (a' := ?_) ?_ ?_
      rotate_left
      ·show Act.put _ (some 60) _ = _
       simp only [Act.put, q1, q2, q3, i64_w, i32_w]
       rfl
      refine one_ (i := 13) (N := some 63) (ar 26 16383) rfl rfl (one_of HT_.out (by kernel_rfl)) (by decide) (fun K hK => ?_)
      refine goes_ Try.func21 (by kernel_rfl) rfl #[.agg #[.int .u64 t369, .int .u64 t370], .agg #[.int .u64 t371, .int .u64 t372], .int .i64 2] (by rfl) rfl rfl (by (try simp only [List.map_toArray, List.map_cons, List.map_nil]); first | done | rfl) ?_
      with_reducible refine (wardenref03_Bits.calls kj7 t369 t370 t371 t372 2 t393 t394 _ A47.out).mono ?_
      rintro e w62 ⟨rfl, hb⟩
      refine ⟨_, rfl, ?_⟩
      have n0_ := am (blk_below BK373.out hb)
      have n1_ := am (blk_below BK374.out hb)
      have n2_ := am (below_step (by repeat (first | exact HB.out | refine below_set ?_ GE373.out | refine below_set ?_ GE374.out)) hb)
      clear BK373
      clear BK374
      clear HB
      have BK373 := n0_
      have BK374 := n1_
      have HB := n2_
      clear n0_ n1_ n2_
      (try clear hb)
      (try clear hb2)
      (try clear hk)
      (try clear hi)
      refine hK.out _ _ ⟨(blk_cell BK373.out 0).trans rfl, (blk_cell BK373.out 1).trans rfl, (blk_cell BK374.out 0).trans rfl, (blk_cell BK374.out 1).trans rfl⟩ (fun hHeld => ?_)
      clear hK K
      refine norm_ (a' := ?_) ?_ ?_
      rotate_left
      ·show Act.put _ (some 63) _ = _
       simp only [Act.put, q1, q2, q3, i64_w, i32_w]
       rfl
      refine pure_ (i := 14) (N := some 64) (v := ?_) (a' := ?_) (ar 26 32767) rfl rfl (any_of HT_.out (by kernel_rfl)) (fun _ _ _ h => h) (Or.inl ⟨by rfl, ?_⟩) ?_ ?_
      rotate_left
      ·intro w'
       go_simp
       with_reducible rfl
      rotate_left
      ·simp only [Act.put, q1, q2, q3, i64_w, i32_w]
       rfl
      refine pure_ (i := 15) (N := some 65) (v := ?_) (a' := ?_) (ar 26 65535) rfl rfl (any_of HT_.out (by kernel_rfl)) (fun _ _ _ h => h) (Or.inl ⟨by rfl, ?_⟩) ?_ ?_
      rotate_left
      ·intro w'
       go_simp
       with_reducible rfl
      rotate_left
      ·simp only [Act.put, q1, q2, q3, i64_w, i32_w]
       rfl
      refine pure_ (i := 16) (N := some 66) (v := ?_) (a' := ?_) (ar 26 131071) rfl rfl (any_of HT_.out (by kernel_rfl)) (fun _ _ _ h => h) (Or.inl ⟨by rfl, ?_⟩) ?_ ?_
      rotate_left
      ·intro w'
       go_simp
       with_reducible rfl
      rotate_left
      ·simp only [Act.put, q1, q2, q3, i64_w, i32_w]
       rfl
      refine pure_ (i := 17) (N := some 67) (v := undef) (a' := ?_) (ar 26 262143) rfl rfl (any_of HT_.out (by kernel_rfl)) (fun _ _ _ h => h) (Or.inr ⟨by rfl, rfl⟩) ?_ ?_
      rotate_left
      ·simp only [Act.put, q1, q2, q3, i64_w, i32_w]
       rfl
      refine pure_ (i := 18) (N := some 68) (v := undef) (a' := ?_) (ar 26 524287) rfl rfl (any_of HT_.out (by kernel_rfl)) (fun _ _ _ h => h) (Or.inr ⟨by rfl, rfl⟩) ?_ ?_
      rotate_left
      ·simp only [Act.put, q1, q2, q3, i64_w, i32_w]
       rfl
      refine pure_ (i := 19) (N := some 69) (v := undef) (a' := ?_) (ar 26 1048575) rfl rfl (any_of HT_.out (by kernel_rfl)) (fun _ _ _ h => h) (Or.inr ⟨by rfl, rfl⟩) ?_ ?_
      rotate_left
      ·simp only [Act.put, q1, q2, q3, i64_w, i32_w]
       rfl
      refine pure_ (i := 20) (N := some 70) (v := undef) (a' := ?_) (ar 26 2097151) rfl rfl (any_of HT_.out (by kernel_rfl)) (fun _ _ _ h => h) (Or.inr ⟨by rfl, rfl⟩) ?_ ?_
      rotate_left
      ·simp only [Act.put, q1, q2, q3, i64_w, i32_w]
       rfl
      refine pure_ (i := 21) (N := some 71) (v := undef) (a' := ?_) (ar 26 4194303) rfl rfl (any_of HT_.out (by kernel_rfl)) (fun _ _ _ h => h) (Or.inr ⟨by rfl, rfl⟩) ?_ ?_
      rotate_left
      ·simp only [Act.put, q1, q2, q3, i64_w, i32_w]
       rfl
      refine pure_ (i := 22) (N := some 72) (v := undef) (a' := ?_) (ar 26 8388607) rfl rfl (any_of HT_.out (by kernel_rfl)) (fun _ _ _ h => h) (Or.inr ⟨by rfl, rfl⟩) ?_ ?_
      rotate_left
      ·simp only [Act.put, q1, q2, q3, i64_w, i32_w]
       rfl
      refine pure_ (i := 23) (N := some 73) (v := undef) (a' := ?_) (ar 26 16777215) rfl rfl (any_of HT_.out (by kernel_rfl)) (fun _ _ _ h => h) (Or.inr ⟨by rfl, rfl⟩) ?_ ?_
      rotate_left
      ·simp only [Act.put, q1, q2, q3, i64_w, i32_w]
       rfl
      refine pure_ (i := 24) (N := some 74) (v := ?_) (a' := ?_) (ar 26 33554431) rfl rfl (any_of HT_.out (by kernel_rfl)) (fun _ _ _ h => h) (Or.inl ⟨by rfl, ?_⟩) ?_ ?_
      rotate_left
      ·intro w'
       go_simp
       with_reducible rfl
      rotate_left
      ·simp only [Act.put, q1, q2, q3, i64_w, i32_w]
       rfl
      refine pure_ (i := 25) (N := some 15) (v := ?_) (a' := ?_) (ar 26 67108863) rfl rfl (any_of HT_.out (by kernel_rfl)) (fun _ _ _ h => h) (Or.inl ⟨by rfl, ?_⟩) ?_ ?_
      rotate_left
      ·intro w'
       go_simp
       with_reducible rfl
      rotate_left
      ·simp only [Act.put, q1, q2, q3, i64_w, i32_w]
       rfl
      refine done_ (done_of HT_.out (by kernel_rfl)) ?_
      try go_wp2
      go_meet
      case rel => exact ⟨_, (false), (by first | rfl | (simp; done) | (simp [*]; done)), H', ⟨by have := HJ7.out; first | omega | exact Nat.le_refl _⟩, ⟨by (with_reducible repeat (first | refine blk_drewN ?_ _ | refine blk_drew ?_ | refine blk_alloc ?_ _)); exact BK373.out⟩, ⟨by (with_reducible repeat (first | refine blk_drewN ?_ _ | refine blk_drew ?_ | refine blk_alloc ?_ _)); exact BK374.out⟩, ⟨by repeat (first | (with_reducible first | exact HB.out | apply below_alloc | apply pw_below_drewN | apply below_drew1 | refine below_set ?_ GE373.out | refine below_set ?_ GE374.out) | exact HB.out)⟩⟩
    ·rw [if_neg c45] at H
     have c45b0 : (t387 == t389 && (t388 == t390)) = false := by simpa using c45
     (try (have c45b1 : decide (t387 = t389 && (t388 == t390)) = false := by simpa using c45))
     (try (have c45b2 : (t387 == t389 && (t388 == t390)) = false := by simpa using c45))
     (try (have c45b3 : ¬ (t387 = t389 && (t388 == t390)) := by simpa using c45))
     clear c45
     (first | rw [c45b0] | (simp only [i64_w, i32_w]; rw [c45b0]) | skip)
     have H' := am H
     clear H
     try go_wp2
     have n0_ := am (blk_drew BK373.out)
     have n1_ := am (blk_drew BK374.out)
     have n2_ := am (below_drew1 HB.out)
     clear BK373
     clear BK374
     clear HB
     have BK373 := n0_
     have BK374 := n1_
     have HB := n2_
     clear n0_ n1_ n2_
     refine start_ (n := 26) (S := fun w' => w'.cell? ⟨gb373, 0, none⟩ = some (.int .u64 t369) ∧ w'.cell? ⟨gb373, 1, none⟩ = some (.int .u64 t370) ∧ w'.cell? ⟨gb374, 0, none⟩ = some (.int .u64 t371) ∧ w'.cell? ⟨gb374, 1, none⟩ = some (.int .u64 t372)) (ds := []) (ar 26 0) (by kernel_rfl) rfl rfl ⟨(blk_cell BK373.out 0).trans rfl, (blk_cell BK373.out 1).trans rfl, (blk_cell BK374.out 0).trans rfl, (blk_cell BK374.out 1).trans rfl⟩ (fun hHeld => ?_); refine with_tabW wardenlaw03_TnumReckons.tab4 wardenlaw03_TnumReckons.bits4 (fun HT_ HW_ => ?_)
     generalize wc.drew = w63 at BK373 BK374 HB hHeld ⊢
     refine take_ (i := 0) (N := some 50) (v := ?_) (a' := ?_) (ar 26 1) rfl rfl (take_ofW HT_.out HW_.out (by kernel_rfl)) (fun _ _ _ h => h) (Or.inl ⟨by rfl, ?_⟩) hHeld ?_ ?_
     rotate_left
     ·rintro w' ⟨s0, s1, s2, s3⟩
      go_simp
      with_reducible rfl
     rotate_left
     ·simp only [Act.put, q1, q2, q3, i64_w, i32_w]
      rfl
     refine take_ (i := 1) (N := some 51) (v := ?_) (a' := ?_) (ar 26 3) rfl rfl (take_ofW HT_.out HW_.out (by kernel_rfl)) (fun _ _ _ h => h) (Or.inl ⟨by rfl, ?_⟩) hHeld ?_ ?_
     rotate_left
     ·rintro w' ⟨s0, s1, s2, s3⟩
      go_simp
      with_reducible rfl
     rotate_left
     ·simp only [Act.put, q1, q2, q3, i64_w, i32_w]
      rfl
     refine take_ (i := 3) (N := some 53) (v := ?_) (a' := ?_) (ar 26 11) rfl rfl (take_ofW HT_.out HW_.out (by kernel_rfl)) (fun _ _ _ h => h) (Or.inl ⟨by rfl, ?_⟩) hHeld ?_ ?_
     rotate_left
     ·rintro w' ⟨s0, s1, s2, s3⟩
      go_simp
      with_reducible rfl
     rotate_left
     ·simp only [Act.put, q1, q2, q3, i64_w, i32_w]
      rfl
     refine take_ (i := 4) (N := some 54) (v := ?_) (a' := ?_) (ar 26 27) rfl rfl (take_ofW HT_.out HW_.out (by kernel_rfl)) (fun _ _ _ h => h) (Or.inl ⟨by rfl, ?_⟩) hHeld ?_ ?_
     rotate_left
     ·rintro w' ⟨s0, s1, s2, s3⟩
      go_simp
      with_reducible rfl
     rotate_left
     ·simp only [Act.put, q1, q2, q3, i64_w, i32_w]
      rfl
     refine one_ (i := 2) (N := some 52) (ar 26 31) rfl rfl (one_of HT_.out (by kernel_rfl)) (by decide) (fun K hK => ?_)
     refine goes_ Try.func27 (by kernel_rfl) rfl #[.agg #[.int .u64 t369, .int .u64 t370], .agg #[.int .u64 t371, .int .u64 t372]] (by rfl) rfl rfl (by (try simp only [List.map_toArray, List.map_cons, List.map_nil]); first | done | rfl) ?_
     with_reducible refine (tnum_And.calls t369 t370 t371 t372 t387 t388 _ A43.out).mono ?_
     rintro e w64 ⟨rfl, hb⟩
     refine ⟨_, rfl, ?_⟩
     have n0_ := am (blk_below BK373.out hb)
     have n1_ := am (blk_below BK374.out hb)
     have n2_ := am (below_step (by repeat (first | exact HB.out | refine below_set ?_ GE373.out | refine below_set ?_ GE374.out)) hb)
     clear BK373
     clear BK374
     clear HB
     have BK373 := n0_
     have BK374 := n1_
     have HB := n2_
     clear n0_ n1_ n2_
     (try clear hb)
     (try clear hb2)
     (try clear hk)
     (try clear hi)
     refine hK.out _ _ ⟨(blk_cell BK373.out 0).trans rfl, (blk_cell BK373.out 1).trans rfl, (blk_cell BK374.out 0).trans rfl, (blk_cell BK374.out 1).trans rfl⟩ (fun hHeld => ?_)
     clear hK K
     refine norm_ (a' := ?_) ?_ ?_
     rotate_left
     ·show Act.put _ (some 52) _ = _
      simp only [Act.put, q1, q2, q3, i64_w, i32_w]
      rfl
     refine one_ (i := 5) (N := some 55) (ar 26 63) rfl rfl (one_of HT_.out (by kernel_rfl)) (by decide) (fun K hK => ?_)
     refine goes_ Try.func21 (by kernel_rfl) rfl #[.agg #[.int .u64 t369, .int .u64 t370], .agg #[.int .u64 t371, .int .u64 t372], .int .i64 1] (by rfl) rfl rfl (by (try simp only [List.map_toArray, List.map_cons, List.map_nil]); first | done | rfl) ?_
     with_reducible refine (wardenref03_Bits.calls kj7 t369 t370 t371 t372 1 t389 t390 _ A44.out).mono ?_
     rintro e w65 ⟨rfl, hb⟩
     refine ⟨_, rfl, ?_⟩
     have n0_ := am (blk_below BK373.out hb)
     have n1_ := am (blk_below BK374.out hb)
     have n2_ := am (below_step (by repeat (first | exact HB.out | refine below_set ?_ GE373.out | refine below_set ?_ GE374.out)) hb)
     clear BK373
     clear BK374
     clear HB
     have BK373 := n0_
     have BK374 := n1_
     have HB := n2_
     clear n0_ n1_ n2_
     (try clear hb)
     (try clear hb2)
     (try clear hk)
     (try clear hi)
     refine hK.out _ _ ⟨(blk_cell BK373.out 0).trans rfl, (blk_cell BK373.out 1).trans rfl, (blk_cell BK374.out 0).trans rfl, (blk_cell BK374.out 1).trans rfl⟩ (fun hHeld => ?_)
     clear hK K
     refine norm_ (a' := ?_) ?_ ?_
     rotate_left
     ·show Act.put _ (some 55) _ = _
      simp only [Act.put, q1, q2, q3, i64_w, i32_w]
      rfl
     refine pure_ (i := 6) (N := some 56) (v := ?_) (a' := ?_) (ar 26 127) rfl rfl (any_of HT_.out (by kernel_rfl)) (fun _ _ _ h => h) (Or.inl ⟨by rfl, ?_⟩) ?_ ?_
     rotate_left
     ·intro w'
      go_simp
      with_reducible rfl
     rotate_left
     ·simp only [Act.put, q1, q2, q3, i64_w, i32_w]
      rfl
     refine pure_ (i := 7) (N := some 57) (v := ?_) (a' := ?_) (ar 26 255) rfl rfl (any_of HT_.out (by kernel_rfl)) (fun _ _ _ h => h) (Or.inl ⟨by rfl, ?_⟩) ?_ ?_
     rotate_left
     ·intro w'
      go_simp
      with_reducible rfl
     rotate_left
     ·simp only [Act.put, q1, q2, q3, i64_w, i32_w]
      rfl
     refine pure_ (i := 8) (N := some 58) (v := undef) (a' := ?_) (ar 26 511) rfl rfl (any_of HT_.out (by kernel_rfl)) (fun _ _ _ h => h) (Or.inr ⟨by rfl, rfl⟩) ?_ ?_
     rotate_left
     ·simp only [Act.put, q1, q2, q3, i64_w, i32_w]
      rfl
     refine pure_ (i := 9) (N := some 59) (v := undef) (a' := ?_) (ar 26 1023) rfl rfl (any_of HT_.out (by kernel_rfl)) (fun _ _ _ h => h) (Or.inr ⟨by rfl, rfl⟩) ?_ ?_
     rotate_left
     ·simp only [Act.put, q1, q2, q3, i64_w, i32_w]
      rfl
     refine pure_ (i := 10) (N := some 60) (v := undef) (a' := ?_) (ar 26 2047) rfl rfl (any_of HT_.out (by kernel_rfl)) (fun _ _ _ h => h) (Or.inr ⟨by rfl, rfl⟩) ?_ ?_
     rotate_left
     ·simp only [Act.put, q1, q2, q3, i64_w, i32_w]
      rfl
     refine pure_ (i := 11) (N := some 61) (v := undef) (a' := ?_) (ar 26 4095) rfl rfl (any_of HT_.out (by kernel_rfl)) (fun _ _ _ h => h) (Or.inr ⟨by rfl, rfl⟩) ?_ ?_
     rotate_left
     ·simp only [Act.put, q1, q2, q3, i64_w, i32_w]
      rfl
     refine pure_ (i := 12) (N := some 62) (v := undef) (a' := ?_) (ar 26 8191) rfl rfl (any_of HT_.out (by kernel_rfl)) (fun _ _ _ h => h) (Or.inr ⟨by rfl, rfl⟩) ?_ ?_
     rotate_left
     ·simp only [Act.put, q1, q2, q3, i64_w, i32_w]
      rfl
     refine pure_ (i := 13) (N := some 63) (v := undef) (a' := ?_) (ar 26 16383) rfl rfl (any_of HT_.out (by kernel_rfl)) (fun _ _ _ h => h) (Or.inr ⟨by rfl, rfl⟩) ?_ ?_
     rotate_left
     ·simp only [Act.put, q1, q2, q3, i64_w, i32_w]
      rfl
     refine pure_ (i := 14) (N := some 64) (v := undef) (a' := ?_) (ar 26 32767) rfl rfl (any_of HT_.out (by kernel_rfl)) (fun _ _ _ h => h) (Or.inr ⟨by rfl, rfl⟩) ?_ ?_
     rotate_left
     ·simp only [Act.put, q1, q2, q3, i64_w, i32_w]
      rfl
     refine pure_ (i := 15) (N := some 65) (v := ?_) (a' := ?_) (ar 26 65535) rfl rfl (any_of HT_.out (by kernel_rfl)) (fun _ _ _ h => h) (Or.inl ⟨by rfl, ?_⟩) ?_ ?_
     rotate_left
     ·intro w'
      go_simp
      with_reducible rfl
     rotate_left
     ·simp only [Act.put, q1, q2, q3, i64_w, i32_w]
      rfl
     refine pure_ (i := 16) (N := some 66) (v := ?_) (a' := ?_) (ar 26 131071) rfl rfl (any_of HT_.out (by kernel_rfl)) (fun _ _ _ h => h) (Or.inl ⟨by rfl, ?_⟩) ?_ ?_
     rotate_left
     ·intro w'
      go_simp
      with_reducible rfl
     rotate_left
     ·simp only [Act.put, q1, q2, q3, i64_w, i32_w]
      rfl
     refine pure_ (i := 17) (N := some 67) (v := undef) (a' := ?_) (ar 26 262143) rfl rfl (any_of HT_.out (by kernel_rfl)) (fun _ _ _ h => h) (Or.inr ⟨by rfl, rfl⟩) ?_ ?_
     rotate_left
     ·simp only [Act.put, q1, q2, q3, i64_w, i32_w]
      rfl
     refine pure_ (i := 18) (N := some 68) (v := undef) (a' := ?_) (ar 26 524287) rfl rfl (any_of HT_.out (by kernel_rfl)) (fun _ _ _ h => h) (Or.inr ⟨by rfl, rfl⟩) ?_ ?_
     rotate_left
     ·simp only [Act.put, q1, q2, q3, i64_w, i32_w]
      rfl
     refine pure_ (i := 19) (N := some 69) (v := undef) (a' := ?_) (ar 26 1048575) rfl rfl (any_of HT_.out (by kernel_rfl)) (fun _ _ _ h => h) (Or.inr ⟨by rfl, rfl⟩) ?_ ?_
     rotate_left
     ·simp only [Act.put, q1, q2, q3, i64_w, i32_w]
      rfl
     refine pure_ (i := 20) (N := some 70) (v := undef) (a' := ?_) (ar 26 2097151) rfl rfl (any_of HT_.out (by kernel_rfl)) (fun _ _ _ h => h) (Or.inr ⟨by rfl, rfl⟩) ?_ ?_
     rotate_left
     ·simp only [Act.put, q1, q2, q3, i64_w, i32_w]
      rfl
     refine pure_ (i := 21) (N := some 71) (v := undef) (a' := ?_) (ar 26 4194303) rfl rfl (any_of HT_.out (by kernel_rfl)) (fun _ _ _ h => h) (Or.inr ⟨by rfl, rfl⟩) ?_ ?_
     rotate_left
     ·simp only [Act.put, q1, q2, q3, i64_w, i32_w]
      rfl
     refine pure_ (i := 22) (N := some 72) (v := undef) (a' := ?_) (ar 26 8388607) rfl rfl (any_of HT_.out (by kernel_rfl)) (fun _ _ _ h => h) (Or.inr ⟨by rfl, rfl⟩) ?_ ?_
     rotate_left
     ·simp only [Act.put, q1, q2, q3, i64_w, i32_w]
      rfl
     refine pure_ (i := 23) (N := some 73) (v := undef) (a' := ?_) (ar 26 16777215) rfl rfl (any_of HT_.out (by kernel_rfl)) (fun _ _ _ h => h) (Or.inr ⟨by rfl, rfl⟩) ?_ ?_
     rotate_left
     ·simp only [Act.put, q1, q2, q3, i64_w, i32_w]
      rfl
     refine pure_ (i := 24) (N := some 74) (v := ?_) (a' := ?_) (ar 26 33554431) rfl rfl (any_of HT_.out (by kernel_rfl)) (fun _ _ _ h => h) (Or.inl ⟨by rfl, ?_⟩) ?_ ?_
     rotate_left
     ·intro w'
      go_simp
      with_reducible rfl
     rotate_left
     ·simp only [Act.put, q1, q2, q3, i64_w, i32_w]
      rfl
     refine pure_ (i := 25) (N := some 15) (v := ?_) (a' := ?_) (ar 26 67108863) rfl rfl (any_of HT_.out (by kernel_rfl)) (fun _ _ _ h => h) (Or.inl ⟨by rfl, ?_⟩) ?_ ?_
     rotate_left
     ·intro w'
      go_simp
      with_reducible rfl
     rotate_left
     ·simp only [Act.put, q1, q2, q3, i64_w, i32_w]
      rfl
     refine done_ (done_of HT_.out (by kernel_rfl)) ?_
     try go_wp2
     go_meet
     case rel => exact ⟨_, (false), (by first | rfl | (simp; done) | (simp [*]; done)), H', ⟨by have := HJ7.out; first | omega | exact Nat.le_refl _⟩, ⟨by (with_reducible repeat (first | refine blk_drewN ?_ _ | refine blk_drew ?_ | refine blk_alloc ?_ _)); exact BK373.out⟩, ⟨by (with_reducible repeat (first | refine blk_drewN ?_ _ | refine blk_drew ?_ | refine blk_alloc ?_ _)); exact BK374.out⟩, ⟨by repeat (first | (with_reducible first | exact HB.out | apply below_alloc | apply pw_below_drewN | apply below_drew1 | refine below_set ?_ GE373.out | refine below_set ?_ GE374.out) | exact HB.out)⟩⟩
   case rest =>
    clear HC42
    try clear c2
    try clear p2
    try clear c3
    try clear c4
    try clear c21
    try clear c27
    try clear c35
    try clear c36
    try clear c45
    try clear c45b0
    try clear c45b1
    try clear c45b2
    try clear c48
    try clear c48b0
    try clear c48b1
    try clear c48b2
    obtain ⟨kq, x15_41, rfl, HA, HJ41, BK373, BK374, HB⟩ := hcut
    cases kq with
    | zero => exact absurd HA.out (by simp [wardenlaw03_TnumReckons.j1])
    | succ kj41 =>
     have H := HA.out
     clear HA
     simp only [wardenlaw03_TnumReckons.j1] at H
     replace H := Option.bind_eq_some_iff.mp H
     obtain ⟨⟨t399, t400⟩, A660, H⟩ := H
     try dsimp only at H
     have A66 := am A660
     clear A660
     replace H := Option.bind_eq_some_iff.mp H
     obtain ⟨⟨t401, t402⟩, A670, H⟩ := H
     try dsimp only at H
     have A67 := am A670
     clear A670
     by_cases c68 : (t399 == t401 && (t400 == t402)) = true
     ·rw [if_pos c68] at H
      have c68b0 : (t399 == t401 && (t400 == t402)) = true := c68
      (try (have c68b1 : decide (t399 = t401 && (t400 == t402)) = true := by simpa using c68))
      (try (have c68b2 : (t399 == t401 && (t400 == t402)) = true := by simpa using c68))
      clear c68
      replace H := Option.bind_eq_some_iff.mp H
      obtain ⟨⟨t403, t404⟩, A690, H⟩ := H
      try dsimp only at H
      have A69 := am A690
      clear A690
      replace H := Option.bind_eq_some_iff.mp H
      obtain ⟨⟨t405, t406⟩, A700, H⟩ := H
      try dsimp only at H
      have A70 := am A700
      clear A700
      by_cases c71 : (t403 == t405 && (t404 == t406)) = true
      ·rw [if_pos c71] at H
       have c71b0 : (t403 == t405 && (t404 == t406)) = true := c71
       (try (have c71b1 : decide (t403 = t405 && (t404 == t406)) = true := by simpa using c71))
       (try (have c71b2 : (t403 == t405 && (t404 == t406)) = true := by simpa using c71))
       clear c71
       replace H := Option.bind_eq_some_iff.mp H
       obtain ⟨⟨t407, t408⟩, A720, H⟩ := H
       try dsimp only at H
       have A72 := am A720
       clear A720
       replace H := Option.bind_eq_some_iff.mp H
       obtain ⟨⟨t409, t410⟩, A730, H⟩ := H
       try dsimp only at H
       have A73 := am A730
       clear A730
       by_cases c74 : x14_7 = true
       ·subst c74
        have H1 : (if x15_41 = true then (if (t407 == t409 && (t408 == t410)) = true then ((wardenlaw03_works.f kj41).bind fun t411 => (some t411)) else (some false)) else (some false)) = some r := by rw [if_pos rfl] at H; exact H
        clear H
        have H := H1
        clear H1
        by_cases c75 : x15_41 = true
        ·subst c75
         have H1 : (if (t407 == t409 && (t408 == t410)) = true then ((wardenlaw03_works.f kj41).bind fun t411 => (some t411)) else (some false)) = some r := by rw [if_pos rfl] at H; exact H
         clear H
         have H := H1
         clear H1
         by_cases c76 : (t407 == t409 && (t408 == t410)) = true
         ·rw [if_pos c76] at H
          have c76b0 : (t407 == t409 && (t408 == t410)) = true := c76
          (try (have c76b1 : decide (t407 = t409 && (t408 == t410)) = true := by simpa using c76))
          (try (have c76b2 : (t407 == t409 && (t408 == t410)) = true := by simpa using c76))
          clear c76
          replace H := Option.bind_eq_some_iff.mp H
          obtain ⟨t411, A770, H⟩ := H
          try dsimp only at H
          have A77 := am A770
          clear A770
          obtain rfl := Option.some.inj H
          try go_wp2
          have n0_ := am (blk_drew BK373.out)
          have n1_ := am (blk_drew BK374.out)
          have n2_ := am (below_drew1 HB.out)
          clear BK373
          clear BK374
          clear HB
          have BK373 := n0_
          have BK374 := n1_
          have HB := n2_
          clear n0_ n1_ n2_
          refine start_ (n := 26) (S := fun w' => w'.cell? ⟨gb373, 0, none⟩ = some (.int .u64 t369) ∧ w'.cell? ⟨gb373, 1, none⟩ = some (.int .u64 t370)) (ds := []) (ar 26 0) (by kernel_rfl) rfl rfl ⟨(blk_cell BK373.out 0).trans rfl, (blk_cell BK373.out 1).trans rfl⟩ (fun hHeld => ?_); refine with_tabW wardenlaw03_TnumReckons.tab5 wardenlaw03_TnumReckons.bits5 (fun HT_ HW_ => ?_)
          generalize wc.drew = w78 at BK373 BK374 HB hHeld ⊢
          refine pure_ (i := 1) (N := some 76) (v := ?_) (a' := ?_) (ar 26 2) rfl rfl (any_of HT_.out (by kernel_rfl)) (fun _ _ _ h => h) (Or.inl ⟨by rfl, ?_⟩) ?_ ?_
          rotate_left
          ·intro w'
           go_simp
           with_reducible rfl
          rotate_left
          ·simp only [Act.put, q1, q2, q3, i64_w, i32_w]
           rfl
          refine pure_ (i := 4) (N := some 79) (v := ?_) (a' := ?_) (ar 26 18) rfl rfl (any_of HT_.out (by kernel_rfl)) (fun _ _ _ h => h) (Or.inl ⟨by rfl, ?_⟩) ?_ ?_
          rotate_left
          ·intro w'
           go_simp
           with_reducible rfl
          rotate_left
          ·simp only [Act.put, q1, q2, q3, i64_w, i32_w]
           rfl
          refine take_ (i := 0) (N := some 75) (v := ?_) (a' := ?_) (ar 26 19) rfl rfl (take_ofW HT_.out HW_.out (by kernel_rfl)) (fun _ _ _ h => h) (Or.inl ⟨by rfl, ?_⟩) hHeld ?_ ?_
          rotate_left
          ·rintro w' ⟨s0, s1⟩
           go_simp
           with_reducible rfl
          rotate_left
          ·simp only [Act.put, q1, q2, q3, i64_w, i32_w]
           rfl
          refine take_ (i := 3) (N := some 78) (v := ?_) (a' := ?_) (ar 26 27) rfl rfl (take_ofW HT_.out HW_.out (by kernel_rfl)) (fun _ _ _ h => h) (Or.inl ⟨by rfl, ?_⟩) hHeld ?_ ?_
          rotate_left
          ·rintro w' ⟨s0, s1⟩
           go_simp
           with_reducible rfl
          rotate_left
          ·simp only [Act.put, q1, q2, q3, i64_w, i32_w]
           rfl
          refine one_ (i := 2) (N := some 77) (ar 26 31) rfl rfl (one_of HT_.out (by kernel_rfl)) (by decide) (fun K hK => ?_)
          refine goes_ Try.func26 (by kernel_rfl) rfl #[.agg #[.int .u64 t369, .int .u64 t370], .int .u64 (IntKind.u64.wrap (a4))] (by rfl) rfl rfl (by (try simp only [List.map_toArray, List.map_cons, List.map_nil]); first | done | rfl) ?_
          with_reducible refine (tnum_Shl.calls t369 t370 (IntKind.u64.wrap (a4)) t399 t400 _ A66.out).mono ?_
          rintro e w79 ⟨rfl, hb⟩
          refine ⟨_, rfl, ?_⟩
          have n0_ := am (blk_below BK373.out hb)
          have n1_ := am (blk_below BK374.out hb)
          have n2_ := am (below_step (by repeat (first | exact HB.out | refine below_set ?_ GE373.out | refine below_set ?_ GE374.out)) hb)
          clear BK373
          clear BK374
          clear HB
          have BK373 := n0_
          have BK374 := n1_
          have HB := n2_
          clear n0_ n1_ n2_
          (try clear hb)
          (try clear hb2)
          (try clear hk)
          (try clear hi)
          refine hK.out _ _ ⟨(blk_cell BK373.out 0).trans rfl, (blk_cell BK373.out 1).trans rfl⟩ (fun hHeld => ?_)
          clear hK K
          refine norm_ (a' := ?_) ?_ ?_
          rotate_left
          ·show Act.put _ (some 77) _ = _
           simp only [Act.put, q1, q2, q3, i64_w, i32_w]
           rfl
          refine one_ (i := 5) (N := some 80) (ar 26 63) rfl rfl (one_of HT_.out (by kernel_rfl)) (by decide) (fun K hK => ?_)
          refine goes_ Try.func37 (by kernel_rfl) rfl #[.agg #[.int .u64 t369, .int .u64 t370], .int .u64 (IntKind.u64.wrap (a4)), .int .i64 0] (by rfl) rfl rfl (by (try simp only [List.map_toArray, List.map_cons, List.map_nil]); first | done | rfl) ?_
          with_reducible refine (wardenref03_Shift.calls kj41 t369 t370 (IntKind.u64.wrap (a4)) 0 t401 t402 _ A67.out).mono ?_
          rintro e w80 ⟨rfl, hb⟩
          refine ⟨_, rfl, ?_⟩
          have n0_ := am (blk_below BK373.out hb)
          have n1_ := am (blk_below BK374.out hb)
          have n2_ := am (below_step (by repeat (first | exact HB.out | refine below_set ?_ GE373.out | refine below_set ?_ GE374.out)) hb)
          clear BK373
          clear BK374
          clear HB
          have BK373 := n0_
          have BK374 := n1_
          have HB := n2_
          clear n0_ n1_ n2_
          (try clear hb)
          (try clear hb2)
          (try clear hk)
          (try clear hi)
          refine hK.out _ _ ⟨(blk_cell BK373.out 0).trans rfl, (blk_cell BK373.out 1).trans rfl⟩ (fun hHeld => ?_)
          clear hK K
          refine norm_ (a' := ?_) ?_ ?_
          rotate_left
          ·show Act.put _ (some 80) _ = _
           simp only [Act.put, q1, q2, q3, i64_w, i32_w]
           rfl
          refine pure_ (i := 6) (N := some 81) (v := ?_) (a' := ?_) (ar 26 127) rfl rfl (any_of HT_.out (by kernel_rfl)) (fun _ _ _ h => h) (Or.inl ⟨by rfl, ?_⟩) ?_ ?_
          rotate_left
          ·intro w'
           go_simp
           with_reducible rfl
          rotate_left
          ·simp only [Act.put, q1, q2, q3, i64_w, i32_w]
           rfl
          refine pure_ (i := 7) (N := some 82) (v := ?_) (a' := ?_) (ar 26 255) rfl rfl (any_of HT_.out (by kernel_rfl)) (fun _ _ _ h => h) (Or.inl ⟨by rfl, ?_⟩) ?_ ?_
          rotate_left
          ·intro w'
           go_simp
           with_reducible rfl
          rotate_left
          ·simp only [Act.put, q1, q2, q3, i64_w, i32_w]
           rfl
          refine pure_ (i := 9) (N := some 84) (v := ?_) (a' := ?_) (ar 26 767) rfl rfl (any_of HT_.out (by kernel_rfl)) (fun _ _ _ h => h) (Or.inl ⟨by rfl, ?_⟩) ?_ ?_
          rotate_left
          ·intro w'
           go_simp
           with_reducible rfl
          rotate_left
          ·simp only [Act.put, q1, q2, q3, i64_w, i32_w]
           rfl
          refine pure_ (i := 12) (N := some 87) (v := ?_) (a' := ?_) (ar 26 4863) rfl rfl (any_of HT_.out (by kernel_rfl)) (fun _ _ _ h => h) (Or.inl ⟨by rfl, ?_⟩) ?_ ?_
          rotate_left
          ·intro w'
           go_simp
           with_reducible rfl
          rotate_left
          ·simp only [Act.put, q1, q2, q3, i64_w, i32_w]
           rfl
          refine take_ (i := 8) (N := some 83) (v := ?_) (a' := ?_) (ar 26 5119) rfl rfl (take_ofW HT_.out HW_.out (by kernel_rfl)) (fun _ _ _ h => h) (Or.inl ⟨by rfl, ?_⟩) hHeld ?_ ?_
          rotate_left
          ·rintro w' ⟨s0, s1⟩
           go_simp
           with_reducible rfl
          rotate_left
          ·simp only [Act.put, q1, q2, q3, i64_w, i32_w]
           rfl
          refine take_ (i := 11) (N := some 86) (v := ?_) (a' := ?_) (ar 26 7167) rfl rfl (take_ofW HT_.out HW_.out (by kernel_rfl)) (fun _ _ _ h => h) (Or.inl ⟨by rfl, ?_⟩) hHeld ?_ ?_
          rotate_left
          ·rintro w' ⟨s0, s1⟩
           go_simp
           with_reducible rfl
          rotate_left
          ·simp only [Act.put, q1, q2, q3, i64_w, i32_w]
           rfl
          refine one_ (i := 10) (N := some 85) (ar 26 8191) rfl rfl (one_of HT_.out (by kernel_rfl)) (by decide) (fun K hK => ?_)
          refine goes_ Try.func25 (by kernel_rfl) rfl #[.agg #[.int .u64 t369, .int .u64 t370], .int .u64 (IntKind.u64.wrap (a4))] (by rfl) rfl rfl (by (try simp only [List.map_toArray, List.map_cons, List.map_nil]); first | done | rfl) ?_
          with_reducible refine (tnum_Shr.calls t369 t370 (IntKind.u64.wrap (a4)) t403 t404 _ A69.out).mono ?_
          rintro e w81 ⟨rfl, hb⟩
          refine ⟨_, rfl, ?_⟩
          have n0_ := am (blk_below BK373.out hb)
          have n1_ := am (blk_below BK374.out hb)
          have n2_ := am (below_step (by repeat (first | exact HB.out | refine below_set ?_ GE373.out | refine below_set ?_ GE374.out)) hb)
          clear BK373
          clear BK374
          clear HB
          have BK373 := n0_
          have BK374 := n1_
          have HB := n2_
          clear n0_ n1_ n2_
          (try clear hb)
          (try clear hb2)
          (try clear hk)
          (try clear hi)
          refine hK.out _ _ ⟨(blk_cell BK373.out 0).trans rfl, (blk_cell BK373.out 1).trans rfl⟩ (fun hHeld => ?_)
          clear hK K
          refine norm_ (a' := ?_) ?_ ?_
          rotate_left
          ·show Act.put _ (some 85) _ = _
           simp only [Act.put, q1, q2, q3, i64_w, i32_w]
           rfl
          refine one_ (i := 13) (N := some 88) (ar 26 16383) rfl rfl (one_of HT_.out (by kernel_rfl)) (by decide) (fun K hK => ?_)
          refine goes_ Try.func37 (by kernel_rfl) rfl #[.agg #[.int .u64 t369, .int .u64 t370], .int .u64 (IntKind.u64.wrap (a4)), .int .i64 1] (by rfl) rfl rfl (by (try simp only [List.map_toArray, List.map_cons, List.map_nil]); first | done | rfl) ?_
          with_reducible refine (wardenref03_Shift.calls kj41 t369 t370 (IntKind.u64.wrap (a4)) 1 t405 t406 _ A70.out).mono ?_
          rintro e w82 ⟨rfl, hb⟩
          refine ⟨_, rfl, ?_⟩
          have n0_ := am (blk_below BK373.out hb)
          have n1_ := am (blk_below BK374.out hb)
          have n2_ := am (below_step (by repeat (first | exact HB.out | refine below_set ?_ GE373.out | refine below_set ?_ GE374.out)) hb)
          clear BK373
          clear BK374
          clear HB
          have BK373 := n0_
          have BK374 := n1_
          have HB := n2_
          clear n0_ n1_ n2_
          (try clear hb)
          (try clear hb2)
          (try clear hk)
          (try clear hi)
          refine hK.out _ _ ⟨(blk_cell BK373.out 0).trans rfl, (blk_cell BK373.out 1).trans rfl⟩ (fun hHeld => ?_)
          clear hK K
          refine norm_ (a' := ?_) ?_ ?_
          rotate_left
          ·show Act.put _ (some 88) _ = _
           simp only [Act.put, q1, q2, q3, i64_w, i32_w]
           rfl
          refine pure_ (i := 14) (N := some 89) (v := ?_) (a' := ?_) (ar 26 32767) rfl rfl (any_of HT_.out (by kernel_rfl)) (fun _ _ _ h => h) (Or.inl ⟨by rfl, ?_⟩) ?_ ?_
          rotate_left
          ·intro w'
           go_simp
           with_reducible rfl
          rotate_left
          ·simp only [Act.put, q1, q2, q3, i64_w, i32_w]
           rfl
          refine pure_ (i := 15) (N := some 90) (v := ?_) (a' := ?_) (ar 26 65535) rfl rfl (any_of HT_.out (by kernel_rfl)) (fun _ _ _ h => h) (Or.inl ⟨by rfl, ?_⟩) ?_ ?_
          rotate_left
          ·intro w'
           go_simp
           with_reducible rfl
          rotate_left
          ·simp only [Act.put, q1, q2, q3, i64_w, i32_w]
           rfl
          refine pure_ (i := 16) (N := some 91) (v := ?_) (a' := ?_) (ar 26 131071) rfl rfl (any_of HT_.out (by kernel_rfl)) (fun _ _ _ h => h) (Or.inl ⟨by rfl, ?_⟩) ?_ ?_
          rotate_left
          ·intro w'
           go_simp
           with_reducible rfl
          rotate_left
          ·simp only [Act.put, q1, q2, q3, i64_w, i32_w]
           rfl
          refine pure_ (i := 18) (N := some 93) (v := ?_) (a' := ?_) (ar 26 393215) rfl rfl (any_of HT_.out (by kernel_rfl)) (fun _ _ _ h => h) (Or.inl ⟨by rfl, ?_⟩) ?_ ?_
          rotate_left
          ·intro w'
           go_simp
           with_reducible rfl
          rotate_left
          ·simp only [Act.put, q1, q2, q3, i64_w, i32_w]
           rfl
          refine pure_ (i := 21) (N := some 96) (v := ?_) (a' := ?_) (ar 26 2490367) rfl rfl (any_of HT_.out (by kernel_rfl)) (fun _ _ _ h => h) (Or.inl ⟨by rfl, ?_⟩) ?_ ?_
          rotate_left
          ·intro w'
           go_simp
           with_reducible rfl
          rotate_left
          ·simp only [Act.put, q1, q2, q3, i64_w, i32_w]
           rfl
          refine take_ (i := 17) (N := some 92) (v := ?_) (a' := ?_) (ar 26 2621439) rfl rfl (take_ofW HT_.out HW_.out (by kernel_rfl)) (fun _ _ _ h => h) (Or.inl ⟨by rfl, ?_⟩) hHeld ?_ ?_
          rotate_left
          ·rintro w' ⟨s0, s1⟩
           go_simp
           with_reducible rfl
          rotate_left
          ·simp only [Act.put, q1, q2, q3, i64_w, i32_w]
           rfl
          refine take_ (i := 20) (N := some 95) (v := ?_) (a' := ?_) (ar 26 3670015) rfl rfl (take_ofW HT_.out HW_.out (by kernel_rfl)) (fun _ _ _ h => h) (Or.inl ⟨by rfl, ?_⟩) hHeld ?_ ?_
          rotate_left
          ·rintro w' ⟨s0, s1⟩
           go_simp
           with_reducible rfl
          rotate_left
          ·simp only [Act.put, q1, q2, q3, i64_w, i32_w]
           rfl
          refine one_ (i := 19) (N := some 94) (ar 26 4194303) rfl rfl (one_of HT_.out (by kernel_rfl)) (by decide) (fun K hK => ?_)
          refine goes_ Try.func28 (by kernel_rfl) rfl #[.agg #[.int .u64 t369, .int .u64 t370], .int .u64 (IntKind.u64.wrap (a4))] (by rfl) rfl rfl (by (try simp only [List.map_toArray, List.map_cons, List.map_nil]); first | done | rfl) ?_
          with_reducible refine (tnum_Sar.calls t369 t370 (IntKind.u64.wrap (a4)) t407 t408 _ A72.out).mono ?_
          rintro e w83 ⟨rfl, hb⟩
          refine ⟨_, rfl, ?_⟩
          have n0_ := am (blk_below BK373.out hb)
          have n1_ := am (blk_below BK374.out hb)
          have n2_ := am (below_step (by repeat (first | exact HB.out | refine below_set ?_ GE373.out | refine below_set ?_ GE374.out)) hb)
          clear BK373
          clear BK374
          clear HB
          have BK373 := n0_
          have BK374 := n1_
          have HB := n2_
          clear n0_ n1_ n2_
          (try clear hb)
          (try clear hb2)
          (try clear hk)
          (try clear hi)
          refine hK.out _ _ ⟨(blk_cell BK373.out 0).trans rfl, (blk_cell BK373.out 1).trans rfl⟩ (fun hHeld => ?_)
          clear hK K
          refine norm_ (a' := ?_) ?_ ?_
          rotate_left
          ·show Act.put _ (some 94) _ = _
           simp only [Act.put, q1, q2, q3, i64_w, i32_w]
           rfl
          refine one_ (i := 22) (N := some 97) (ar 26 8388607) rfl rfl (one_of HT_.out (by kernel_rfl)) (by decide) (fun K hK => ?_)
          refine goes_ Try.func37 (by kernel_rfl) rfl #[.agg #[.int .u64 t369, .int .u64 t370], .int .u64 (IntKind.u64.wrap (a4)), .int .i64 2] (by rfl) rfl rfl (by (try simp only [List.map_toArray, List.map_cons, List.map_nil]); first | done | rfl) ?_
          with_reducible refine (wardenref03_Shift.calls kj41 t369 t370 (IntKind.u64.wrap (a4)) 2 t409 t410 _ A73.out).mono ?_
          rintro e w84 ⟨rfl, hb⟩
          refine ⟨_, rfl, ?_⟩
          have n0_ := am (blk_below BK373.out hb)
          have n1_ := am (blk_below BK374.out hb)
          have n2_ := am (below_step (by repeat (first | exact HB.out | refine below_set ?_ GE373.out | refine below_set ?_ GE374.out)) hb)
          clear BK373
          clear BK374
          clear HB
          have BK373 := n0_
          have BK374 := n1_
          have HB := n2_
          clear n0_ n1_ n2_
          (try clear hb)
          (try clear hb2)
          (try clear hk)
          (try clear hi)
          refine hK.out _ _ ⟨(blk_cell BK373.out 0).trans rfl, (blk_cell BK373.out 1).trans rfl⟩ (fun hHeld => ?_)
          clear hK K
          refine norm_ (a' := ?_) ?_ ?_
          rotate_left
          ·show Act.put _ (some 97) _ = _
           simp only [Act.put, q1, q2, q3, i64_w, i32_w]
           rfl
          refine pure_ (i := 23) (N := some 98) (v := ?_) (a' := ?_) (ar 26 16777215) rfl rfl (any_of HT_.out (by kernel_rfl)) (fun _ _ _ h => h) (Or.inl ⟨by rfl, ?_⟩) ?_ ?_
          rotate_left
          ·intro w'
           go_simp
           with_reducible rfl
          rotate_left
          ·simp only [Act.put, q1, q2, q3, i64_w, i32_w]
           rfl
          refine pure_ (i := 24) (N := some 99) (v := ?_) (a' := ?_) (ar 26 33554431) rfl rfl (any_of HT_.out (by kernel_rfl)) (fun _ _ _ h => h) (Or.inl ⟨by rfl, ?_⟩) ?_ ?_
          rotate_left
          ·intro w'
           go_simp
           with_reducible rfl
          rotate_left
          ·simp only [Act.put, q1, q2, q3, i64_w, i32_w]
           rfl
          refine pure_ (i := 25) (N := some 16) (v := ?_) (a' := ?_) (ar 26 67108863) rfl rfl (any_of HT_.out (by kernel_rfl)) (fun _ _ _ h => h) (Or.inl ⟨by rfl, ?_⟩) ?_ ?_
          rotate_left
          ·intro w'
           go_simp
           with_reducible rfl
          rotate_left
          ·simp only [Act.put, q1, q2, q3, i64_w, i32_w]
           rfl
          refine done_ (done_of HT_.out (by kernel_rfl)) ?_
          try go_wp2_with (first | (go_at_call 24; (with_reducible refine (wardenlaw03_works.calls kj41 t411 _ hr_ A77.out).mono ?_); rintro e w85 ⟨rfl, hb⟩; have n0_ := am (blk_below BK373.out hb); have n1_ := am (blk_below BK374.out hb); have n2_ := am (below_step (by repeat (first | exact HB.out | refine below_set ?_ GE373.out | refine below_set ?_ GE374.out)) hb); clear BK373; clear BK374; clear HB; have BK373 := n0_; have BK374 := n1_; have HB := n2_; clear n0_ n1_ n2_; (try clear hb); (try clear hb2); (try clear hk); (try clear hi)))
          go_ret
          exact ⟨by first | rfl | (simp [errW_none, errW_some] <;> rfl) | (simp [*, errW_none, errW_some] <;> rfl), by repeat (first | (with_reducible first | exact HB.out | apply below_alloc | apply pw_below_drewN | apply below_drew1 | refine below_set ?_ GE373.out | refine below_set ?_ GE374.out) | exact HB.out)⟩
         ·rw [if_neg c76] at H
          have c76b0 : (t407 == t409 && (t408 == t410)) = false := by simpa using c76
          (try (have c76b1 : decide (t407 = t409 && (t408 == t410)) = false := by simpa using c76))
          (try (have c76b2 : (t407 == t409 && (t408 == t410)) = false := by simpa using c76))
          (try (have c76b3 : ¬ (t407 = t409 && (t408 == t410)) := by simpa using c76))
          clear c76
          exact absurd ((Option.some.inj H).trans hr_.out) (by decide)
        ·replace c75 := Bool.eq_false_iff.mpr c75
         subst c75
         have H1 : (some false) = some r := by rw [if_neg (show ¬ (false = true) by decide)] at H; exact H
         clear H
         have H := H1
         clear H1
         exact absurd ((Option.some.inj H).trans hr_.out) (by decide)
       ·replace c74 := Bool.eq_false_iff.mpr c74
        subst c74
        have H1 : (some false) = some r := by rw [if_neg (show ¬ (false = true) by decide)] at H; exact H
        clear H
        have H := H1
        clear H1
        exact absurd ((Option.some.inj H).trans hr_.out) (by decide)
      ·rw [if_neg c71] at H
       have c71b0 : (t403 == t405 && (t404 == t406)) = false := by simpa using c71
       (try (have c71b1 : decide (t403 = t405 && (t404 == t406)) = false := by simpa using c71))
       (try (have c71b2 : (t403 == t405 && (t404 == t406)) = false := by simpa using c71))
       (try (have c71b3 : ¬ (t403 = t405 && (t404 == t406)) := by simpa using c71))
       clear c71
       by_cases c107 : x14_7 = true
       ·subst c107
        have H1 : (if x15_41 = true then (some false) else (some false)) = some r := by rw [if_pos rfl] at H; exact H
        clear H
        have H := H1
        clear H1
        by_cases c108 : x15_41 = true
        ·subst c108
         have H1 : (some false) = some r := by rw [if_pos rfl] at H; exact H
         clear H
         have H := H1
         clear H1
         exact absurd ((Option.some.inj H).trans hr_.out) (by decide)
        ·replace c108 := Bool.eq_false_iff.mpr c108
         subst c108
         have H1 : (some false) = some r := by rw [if_neg (show ¬ (false = true) by decide)] at H; exact H
         clear H
         have H := H1
         clear H1
         exact absurd ((Option.some.inj H).trans hr_.out) (by decide)
       ·replace c107 := Bool.eq_false_iff.mpr c107
        subst c107
        have H1 : (some false) = some r := by rw [if_neg (show ¬ (false = true) by decide)] at H; exact H
        clear H
        have H := H1
        clear H1
        exact absurd ((Option.some.inj H).trans hr_.out) (by decide)
     ·rw [if_neg c68] at H
      have c68b0 : (t399 == t401 && (t400 == t402)) = false := by simpa using c68
      (try (have c68b1 : decide (t399 = t401 && (t400 == t402)) = false := by simpa using c68))
      (try (have c68b2 : (t399 == t401 && (t400 == t402)) = false := by simpa using c68))
      (try (have c68b3 : ¬ (t399 = t401 && (t400 == t402)) := by simpa using c68))
      clear c68
      by_cases c124 : x14_7 = true
      ·subst c124
       have H1 : (if x15_41 = true then (some false) else (some false)) = some r := by rw [if_pos rfl] at H; exact H
       clear H
       have H := H1
       clear H1
       by_cases c125 : x15_41 = true
       ·subst c125
        have H1 : (some false) = some r := by rw [if_pos rfl] at H; exact H
        clear H
        have H := H1
        clear H1
        exact absurd ((Option.some.inj H).trans hr_.out) (by decide)
       ·replace c125 := Bool.eq_false_iff.mpr c125
        subst c125
        have H1 : (some false) = some r := by rw [if_neg (show ¬ (false = true) by decide)] at H; exact H
        clear H
        have H := H1
        clear H1
        exact absurd ((Option.some.inj H).trans hr_.out) (by decide)
      ·replace c124 := Bool.eq_false_iff.mpr c124
       subst c124
       have H1 : (some false) = some r := by rw [if_neg (show ¬ (false = true) by decide)] at H; exact H
       clear H
       have H := H1
       clear H1
       exact absurd ((Option.some.inj H).trans hr_.out) (by decide)
/-- THE ONE PURE STATEMENT of wardenlaw03_TnumReckons: yours. -/
def wardenlaw03_TnumReckons.Pure : Prop := ∀ (a0 : Int) (a1 : Int) (a2 : Int) (a3 : Int) (a4 : Int), (Lit.int .u64 a0).wf = true → (Lit.int .u64 a1).wf = true → (Lit.int .u64 a2).wf = true → (Lit.int .u64 a3).wf = true → (Lit.int .u8 a4).wf = true → ∃ k, wardenlaw03_TnumReckons.f k a0 a1 a2 a3 a4 = some true
theorem wardenlaw03_TnumReckons.walk (P : wardenlaw03_TnumReckons.Pure) (a0 : Int) (a1 : Int) (a2 : Int) (a3 : Int) (a4 : Int) (w : World) (w0 : (Lit.int .u64 a0).wf = true) (w1 : (Lit.int .u64 a1).wf = true) (w2 : (Lit.int .u64 a2).wf = true) (w3 : (Lit.int .u64 a3).wf = true) (w4 : (Lit.int .u8 a4).wf = true) :
  Calls Try.prog 5 #[.int .u64 a0, .int .u64 a1, .int .u64 a2, .int .u64 a3, .int .u8 a4] w fun e w' => e = .returned (.bool true) ∧ Below w.heap.size w w' := by
 obtain ⟨k, h⟩ := P a0 a1 a2 a3 a4 w0 w1 w2 w3 w4
 refine (wardenlaw03_TnumReckons.calls k a0 a1 a2 a3 a4 true w ⟨rfl⟩ h).mono ?_
 rintro e w' ⟨rfl, hd⟩
 exact ⟨rfl, hd⟩

end Go.Proofs.Ytnljfoaacngamaa.PD
