/- InsnSound: the walk. -/
import Derived.Test.YtibghcmkmbamjaaCons
import Derived.Test.YtibghcmkmbamjaaPartLib
import Derived.Deep.RegionHeld3
import Derived.IntWalk
import Derived.Deep.QuietTactic
import Derived.BigQuiet
namespace Go.Proofs.Ytibghcmkmbamjaa.PI
open Go.RowKit Go.Proofs.YtibghcmkmbamjaaW.PrintWords Go.Proofs.YtibghcmkmbamjaaW.PrintLast Go.Proofs.YtibghcmkmbamjaaW.PrintMore Go.Proofs.Ytibghcmkmbamjaa
set_option linter.unusedVariables false
set_option linter.unusedSimpArgs false
set_option linter.unusedSectionVars false
section
variable {op D S O M : Int} (h : InsnOk op D S O M) (w : World)
set_option maxHeartbeats 4000000 in
set_option maxRecDepth 100000 in
include h in
theorem sound_0_0_f (hk : kindF op D S O M = 0) (l : List Int) (hl : readsF op D S O M = l) (hlen : l.length ≤ 2) (hl1 : ∀ (i : Nat) (x : Int), l[i]? = some x → x < 11) (hl2 : ∀ (x y : Int), l[0]? = some x → l[1]? = some y → x < y)
    (hw : writesF op D S O M = (0, false)) (hn : sizeF op D S O M = 0) (hwd : wideF op D S O M = false) (hl0 : l = []) :
    Calls Try.prog 6 #[.agg #[.int .u8 op, .int .u8 D, .int .u8 S, .int .i16 O, .int .i32 M]] w fun e w' => e = .returned (.bool true) ∧ Upd [] w w' := by
  subst hl0
  have hh := (SepK.start w).alloc (Obj.cells #[.int .u8 op, .int .u8 D, .int .u8 S, .int .i16 O, .int .i32 M] 24)
  go_enter Try.func6, Try.ntmps6
  go_wp2_with fail
  refine (kind_c h _).mono ?_
  rw [hk]
  rintro e w1 ⟨rfl, hb⟩
  replace hh := hh.upd (up_below (Upd.refl [] _) hb)
  clear hb
  have fb := hh.blk (b := w.heap.size) (o := Obj.cells #[.int .u8 op, .int .u8 D, .int .u8 S, .int .i16 O, .int .i32 M] 24 (0, 0)) (by simp); have k0 := cell_of fb 0; have k1 := cell_of fb 1; have k2 := cell_of fb 2; have k3 := cell_of fb 3; have k4 := cell_of fb 4; have lb := lt_of_heap fb; simp only [List.getElem?_toArray, List.getElem?_cons_zero, List.getElem?_cons_succ] at k0 k1 k2 k3 k4; clear fb
  go_wp2_with fail
  refine (reads_c h _).mono ?_
  rw [hl]
  rintro e w2 ⟨v, rfl, hR, hb⟩
  replace hh := hh.more (up_below (Upd.refl [] _) hb) (Kd_row hR) (fun _ hb => hb)
  clear hb hR
  obtain ⟨A, c, rfl, -⟩ := hh.row
  rw [List.length_map] at hh
  clear k0 k1 k2 k3 k4 lb
  have fb := hh.blk (b := w.heap.size) (o := Obj.cells #[.int .u8 op, .int .u8 D, .int .u8 S, .int .i16 O, .int .i32 M] 24 (0, 0)) (by simp); have k0 := cell_of fb 0; have k1 := cell_of fb 1; have k2 := cell_of fb 2; have k3 := cell_of fb 3; have k4 := cell_of fb 4; have lb := lt_of_heap fb; simp only [List.getElem?_toArray, List.getElem?_cons_zero, List.getElem?_cons_succ] at k0 k1 k2 k3 k4; clear fb
  go_wp2_with fail
  refine (writes_c h _).mono ?_
  rw [hw]
  rintro e w3 ⟨rfl, hb⟩
  replace hh := hh.upd (up_below (Upd.refl [] _) hb)
  clear hb
  clear k0 k1 k2 k3 k4 lb
  have fb := hh.blk (b := w.heap.size) (o := Obj.cells #[.int .u8 op, .int .u8 D, .int .u8 S, .int .i16 O, .int .i32 M] 24 (0, 0)) (by simp); have k0 := cell_of fb 0; have k1 := cell_of fb 1; have k2 := cell_of fb 2; have k3 := cell_of fb 3; have k4 := cell_of fb 4; have lb := lt_of_heap fb; simp only [List.getElem?_toArray, List.getElem?_cons_zero, List.getElem?_cons_succ] at k0 k1 k2 k3 k4; clear fb
  go_wp2_with fail
  refine (size_c h _).mono ?_
  rw [hn]
  rintro e w4 ⟨rfl, hb⟩
  replace hh := hh.upd (up_below (Upd.refl [] _) hb)
  clear hb
  clear k0 k1 k2 k3 k4 lb
  have fb := hh.blk (b := w.heap.size) (o := Obj.cells #[.int .u8 op, .int .u8 D, .int .u8 S, .int .i16 O, .int .i32 M] 24 (0, 0)) (by simp); have k0 := cell_of fb 0; have k1 := cell_of fb 1; have k2 := cell_of fb 2; have k3 := cell_of fb 3; have k4 := cell_of fb 4; have lb := lt_of_heap fb; simp only [List.getElem?_toArray, List.getElem?_cons_zero, List.getElem?_cons_succ] at k0 k1 k2 k3 k4; clear fb
  go_wp2_with (go_at_call 25; refine (wide_c h _).mono ?_; rw [hwd]; rintro e w5 ⟨rfl, hb⟩; replace hh := hh.upd (up_below (Upd.refl [] _) hb); clear hb; clear k0 k1 k2 k3 k4 lb; have fb := hh.blk (b := w.heap.size) (o := Obj.cells #[.int .u8 op, .int .u8 D, .int .u8 S, .int .i16 O, .int .i32 M] 24 (0, 0)) (by simp); have k0 := cell_of fb 0; have k1 := cell_of fb 1; have k2 := cell_of fb 2; have k3 := cell_of fb 3; have k4 := cell_of fb 4; have lb := lt_of_heap fb; simp only [List.getElem?_toArray, List.getElem?_cons_zero, List.getElem?_cons_succ] at k0 k1 k2 k3 k4; clear fb)
  go_loopg [8] 0 (fun kq v8 w' => ∃ i : Nat, v8 = .int .i64 (i : Int) ∧ kq + i = 0 ∧ SepK w w' [(w.heap.size, Obj.cells #[.int .u8 op, .int .u8 D, .int .u8 S, .int .i16 O, .int .i32 M] 24 (0, 0))] (star (rowR 5 1 (.slice A 0 c) []) emp))
  case atStart => exact ⟨0, rfl, rfl, hh⟩
  case round =>
    clear hh
    clear k0 k1 k2 k3 k4 lb
    obtain ⟨i, rfl, hk2, hh⟩ := hrel
    have z1 : decide ((i : Int) < 0) = false := decide_eq_false (by omega)
    have fb := hh.blk (b := w.heap.size) (o := Obj.cells #[.int .u8 op, .int .u8 D, .int .u8 S, .int .i16 O, .int .i32 M] 24 (0, 0)) (by simp); have k0 := cell_of fb 0; have k1 := cell_of fb 1; have k2 := cell_of fb 2; have k3 := cell_of fb 3; have k4 := cell_of fb 4; have lb := lt_of_heap fb; simp only [List.getElem?_toArray, List.getElem?_cons_zero, List.getElem?_cons_succ] at k0 k1 k2 k3 k4; clear fb
    go_wp2_with (first | (go_at_call 25; refine (wide_c h _).mono ?_; rw [hwd]; rintro e w5 ⟨rfl, hb⟩; replace hh := hh.upd (up_below (Upd.refl [] _) hb); clear hb; clear k0 k1 k2 k3 k4 lb; have fb := hh.blk (b := w.heap.size) (o := Obj.cells #[.int .u8 op, .int .u8 D, .int .u8 S, .int .i16 O, .int .i32 M] 24 (0, 0)) (by simp); have k0 := cell_of fb 0; have k1 := cell_of fb 1; have k2 := cell_of fb 2; have k3 := cell_of fb 3; have k4 := cell_of fb 4; have lb := lt_of_heap fb; simp only [List.getElem?_toArray, List.getElem?_cons_zero, List.getElem?_cons_succ] at k0 k1 k2 k3 k4; clear fb) | (go_at_call 14; refine (alive_c _).mono ?_; rintro e w6 ⟨rfl, hb⟩; replace hh := hh.upd (up_below (Upd.refl [] _) hb); clear hb))
    go_ret
    exact ⟨rfl, hh.u⟩

set_option maxHeartbeats 4000000 in
set_option maxRecDepth 100000 in
include h in
theorem sound_2_1_f (hk : kindF op D S O M = 2) (l : List Int) (hl : readsF op D S O M = l) (hlen : l.length ≤ 2) (hl1 : ∀ (i : Nat) (x : Int), l[i]? = some x → x < 11) (hl2 : ∀ (x y : Int), l[0]? = some x → l[1]? = some y → x < y)
    (hw : writesF op D S O M = (D, true)) (hn : sizeF op D S O M = 1) (hwd : wideF op D S O M = false) (hD : D < 10) (hd : D < 11) (hs : S < 11) :
    Calls Try.prog 6 #[.agg #[.int .u8 op, .int .u8 D, .int .u8 S, .int .i16 O, .int .i32 M]] w fun e w' => e = .returned (.bool true) ∧ Upd [] w w' := by
  have yD : decide (10 ≤ D) = false := decide_eq_false (by omega)
  have y5 : decide (D < 11) = true := decide_eq_true hd
  have y6 : decide (S < 11) = true := decide_eq_true hs
  have hh := (SepK.start w).alloc (Obj.cells #[.int .u8 op, .int .u8 D, .int .u8 S, .int .i16 O, .int .i32 M] 24)
  go_enter Try.func6, Try.ntmps6
  go_wp2_with fail
  refine (kind_c h _).mono ?_
  rw [hk]
  rintro e w1 ⟨rfl, hb⟩
  replace hh := hh.upd (up_below (Upd.refl [] _) hb)
  clear hb
  have fb := hh.blk (b := w.heap.size) (o := Obj.cells #[.int .u8 op, .int .u8 D, .int .u8 S, .int .i16 O, .int .i32 M] 24 (0, 0)) (by simp); have k0 := cell_of fb 0; have k1 := cell_of fb 1; have k2 := cell_of fb 2; have k3 := cell_of fb 3; have k4 := cell_of fb 4; have lb := lt_of_heap fb; simp only [List.getElem?_toArray, List.getElem?_cons_zero, List.getElem?_cons_succ] at k0 k1 k2 k3 k4; clear fb
  go_wp2_with fail
  refine (reads_c h _).mono ?_
  rw [hl]
  rintro e w2 ⟨v, rfl, hR, hb⟩
  replace hh := hh.more (up_below (Upd.refl [] _) hb) (Kd_row hR) (fun _ hb => hb)
  clear hb hR
  obtain ⟨A, c, rfl, -⟩ := hh.row
  rw [List.length_map] at hh
  clear k0 k1 k2 k3 k4 lb
  have fb := hh.blk (b := w.heap.size) (o := Obj.cells #[.int .u8 op, .int .u8 D, .int .u8 S, .int .i16 O, .int .i32 M] 24 (0, 0)) (by simp); have k0 := cell_of fb 0; have k1 := cell_of fb 1; have k2 := cell_of fb 2; have k3 := cell_of fb 3; have k4 := cell_of fb 4; have lb := lt_of_heap fb; simp only [List.getElem?_toArray, List.getElem?_cons_zero, List.getElem?_cons_succ] at k0 k1 k2 k3 k4; clear fb
  go_wp2_with fail
  refine (writes_c h _).mono ?_
  rw [hw]
  rintro e w3 ⟨rfl, hb⟩
  replace hh := hh.upd (up_below (Upd.refl [] _) hb)
  clear hb
  clear k0 k1 k2 k3 k4 lb
  have fb := hh.blk (b := w.heap.size) (o := Obj.cells #[.int .u8 op, .int .u8 D, .int .u8 S, .int .i16 O, .int .i32 M] 24 (0, 0)) (by simp); have k0 := cell_of fb 0; have k1 := cell_of fb 1; have k2 := cell_of fb 2; have k3 := cell_of fb 3; have k4 := cell_of fb 4; have lb := lt_of_heap fb; simp only [List.getElem?_toArray, List.getElem?_cons_zero, List.getElem?_cons_succ] at k0 k1 k2 k3 k4; clear fb
  go_wp2_with fail
  refine (size_c h _).mono ?_
  rw [hn]
  rintro e w4 ⟨rfl, hb⟩
  replace hh := hh.upd (up_below (Upd.refl [] _) hb)
  clear hb
  clear k0 k1 k2 k3 k4 lb
  have fb := hh.blk (b := w.heap.size) (o := Obj.cells #[.int .u8 op, .int .u8 D, .int .u8 S, .int .i16 O, .int .i32 M] 24 (0, 0)) (by simp); have k0 := cell_of fb 0; have k1 := cell_of fb 1; have k2 := cell_of fb 2; have k3 := cell_of fb 3; have k4 := cell_of fb 4; have lb := lt_of_heap fb; simp only [List.getElem?_toArray, List.getElem?_cons_zero, List.getElem?_cons_succ] at k0 k1 k2 k3 k4; clear fb
  go_wp2_with fail
  go_loopg [8] l.length (fun kq v8 w' => ∃ i : Nat, v8 = .int .i64 (i : Int) ∧ kq + i = l.length ∧ SepK w w' [(w.heap.size, Obj.cells #[.int .u8 op, .int .u8 D, .int .u8 S, .int .i16 O, .int .i32 M] 24 (0, 0))] (star (rowR 5 1 (.slice A l.length c) (l.map enc8)) emp))
  case atStart => exact ⟨0, rfl, rfl, hh⟩
  case round =>
    clear hh
    clear k0 k1 k2 k3 k4 lb
    obtain ⟨i, rfl, hk2, hh⟩ := hrel
    by_cases hi : i < l.length
    · have z1 : decide ((i : Int) < (l.length : Int)) = true := decide_eq_true (by omega)
      obtain ⟨x, hx⟩ : ∃ x, l[i]? = some x := ⟨l[i], List.getElem?_eq_getElem hi⟩
      have y1 : decide (11 ≤ x) = false := decide_eq_false (by have := hl1 i x hx; omega)
      obtain ⟨A8, c8, e8, hr8⟩ := hh.row
      rw [List.length_map] at e8
      cases e8
      obtain ⟨b, off, rfl, q0⟩ := row8_cell hr8 hx
      have g0 : (0 : Int) ≤ (i : Int) := by omega
      have g1 : (i : Int) < (l.length : Int) := by omega
      by_cases i0 : i = 0
      · subst i0
        clear hr8
        rw [Nat.add_zero] at q0
        go_upto_region 10 with fail
        go_quiet (fail)
        go_wp2_with fail
        go_roundg (gk - 1)
        case measure => omega
        case rel => exact ⟨1, by go_num, by omega, hh.upd ((Upd.refl [] _).drewN _)⟩
      · have i1 : i = 1 := by omega
        obtain ⟨y, hy⟩ : ∃ y, l[0]? = some y := ⟨l[0], List.getElem?_eq_getElem (by omega)⟩
        obtain ⟨b', off', e', q1⟩ := row8_cell hr8 hy
        cases e'
        have y2 : decide (x ≤ y) = false := decide_eq_false (by have := hl2 y x hy (by rw [← i1]; exact hx); omega)
        have y3 : decide (0 < (i : Int)) = true := decide_eq_true (by omega)
        have y3n : 0 < i := by omega
        have y4 : IntKind.i64.wrap ((i : Int) - 1) = 0 := by rw [i1]; decide
        have hi1 : Unit → i = 1 := fun _ => i1
        have g2 : (0 : Int) < (l.length : Int) := by omega
        clear hr8 i1 i0
        rw [Nat.add_zero] at q1
        go_upto_region 10 with fail
        go_quiet (fail)
        go_wp2_with fail
        go_roundg (gk - 1)
        case measure => omega
        case rel => exact ⟨i + 1, by go_num, by omega, hh.upd ((Upd.refl [] _).drewN _)⟩
    · have z1 : decide ((i : Int) < (l.length : Int)) = false := decide_eq_false (by omega)
      have fb := hh.blk (b := w.heap.size) (o := Obj.cells #[.int .u8 op, .int .u8 D, .int .u8 S, .int .i16 O, .int .i32 M] 24 (0, 0)) (by simp); have k0 := cell_of fb 0; have k1 := cell_of fb 1; have k2 := cell_of fb 2; have k3 := cell_of fb 3; have k4 := cell_of fb 4; have lb := lt_of_heap fb; simp only [List.getElem?_toArray, List.getElem?_cons_zero, List.getElem?_cons_succ] at k0 k1 k2 k3 k4; clear fb
      go_wp2_with (first | (go_at_call 25; refine (wide_c h _).mono ?_; rw [hwd]; rintro e w5 ⟨rfl, hb⟩; replace hh := hh.upd (up_below (Upd.refl [] _) hb); clear hb; clear k0 k1 k2 k3 k4 lb; have fb := hh.blk (b := w.heap.size) (o := Obj.cells #[.int .u8 op, .int .u8 D, .int .u8 S, .int .i16 O, .int .i32 M] 24 (0, 0)) (by simp); have k0 := cell_of fb 0; have k1 := cell_of fb 1; have k2 := cell_of fb 2; have k3 := cell_of fb 3; have k4 := cell_of fb 4; have lb := lt_of_heap fb; simp only [List.getElem?_toArray, List.getElem?_cons_zero, List.getElem?_cons_succ] at k0 k1 k2 k3 k4; clear fb) | (go_at_call 14; refine (alive_c _).mono ?_; rintro e w6 ⟨rfl, hb⟩; replace hh := hh.upd (up_below (Upd.refl [] _) hb); clear hb))
      go_ret
      exact ⟨rfl, hh.u⟩

set_option maxHeartbeats 4000000 in
set_option maxRecDepth 100000 in
include h in
theorem sound_2_2_f (hk : kindF op D S O M = 2) (l : List Int) (hl : readsF op D S O M = l) (hlen : l.length ≤ 2) (hl1 : ∀ (i : Nat) (x : Int), l[i]? = some x → x < 11) (hl2 : ∀ (x y : Int), l[0]? = some x → l[1]? = some y → x < y)
    (hw : writesF op D S O M = (D, true)) (hn : sizeF op D S O M = 2) (hwd : wideF op D S O M = false) (hD : D < 10) (hd : D < 11) (hs : S < 11) :
    Calls Try.prog 6 #[.agg #[.int .u8 op, .int .u8 D, .int .u8 S, .int .i16 O, .int .i32 M]] w fun e w' => e = .returned (.bool true) ∧ Upd [] w w' := by
  have yD : decide (10 ≤ D) = false := decide_eq_false (by omega)
  have y5 : decide (D < 11) = true := decide_eq_true hd
  have y6 : decide (S < 11) = true := decide_eq_true hs
  have hh := (SepK.start w).alloc (Obj.cells #[.int .u8 op, .int .u8 D, .int .u8 S, .int .i16 O, .int .i32 M] 24)
  go_enter Try.func6, Try.ntmps6
  go_wp2_with fail
  refine (kind_c h _).mono ?_
  rw [hk]
  rintro e w1 ⟨rfl, hb⟩
  replace hh := hh.upd (up_below (Upd.refl [] _) hb)
  clear hb
  have fb := hh.blk (b := w.heap.size) (o := Obj.cells #[.int .u8 op, .int .u8 D, .int .u8 S, .int .i16 O, .int .i32 M] 24 (0, 0)) (by simp); have k0 := cell_of fb 0; have k1 := cell_of fb 1; have k2 := cell_of fb 2; have k3 := cell_of fb 3; have k4 := cell_of fb 4; have lb := lt_of_heap fb; simp only [List.getElem?_toArray, List.getElem?_cons_zero, List.getElem?_cons_succ] at k0 k1 k2 k3 k4; clear fb
  go_wp2_with fail
  refine (reads_c h _).mono ?_
  rw [hl]
  rintro e w2 ⟨v, rfl, hR, hb⟩
  replace hh := hh.more (up_below (Upd.refl [] _) hb) (Kd_row hR) (fun _ hb => hb)
  clear hb hR
  obtain ⟨A, c, rfl, -⟩ := hh.row
  rw [List.length_map] at hh
  clear k0 k1 k2 k3 k4 lb
  have fb := hh.blk (b := w.heap.size) (o := Obj.cells #[.int .u8 op, .int .u8 D, .int .u8 S, .int .i16 O, .int .i32 M] 24 (0, 0)) (by simp); have k0 := cell_of fb 0; have k1 := cell_of fb 1; have k2 := cell_of fb 2; have k3 := cell_of fb 3; have k4 := cell_of fb 4; have lb := lt_of_heap fb; simp only [List.getElem?_toArray, List.getElem?_cons_zero, List.getElem?_cons_succ] at k0 k1 k2 k3 k4; clear fb
  go_wp2_with fail
  refine (writes_c h _).mono ?_
  rw [hw]
  rintro e w3 ⟨rfl, hb⟩
  replace hh := hh.upd (up_below (Upd.refl [] _) hb)
  clear hb
  clear k0 k1 k2 k3 k4 lb
  have fb := hh.blk (b := w.heap.size) (o := Obj.cells #[.int .u8 op, .int .u8 D, .int .u8 S, .int .i16 O, .int .i32 M] 24 (0, 0)) (by simp); have k0 := cell_of fb 0; have k1 := cell_of fb 1; have k2 := cell_of fb 2; have k3 := cell_of fb 3; have k4 := cell_of fb 4; have lb := lt_of_heap fb; simp only [List.getElem?_toArray, List.getElem?_cons_zero, List.getElem?_cons_succ] at k0 k1 k2 k3 k4; clear fb
  go_wp2_with fail
  refine (size_c h _).mono ?_
  rw [hn]
  rintro e w4 ⟨rfl, hb⟩
  replace hh := hh.upd (up_below (Upd.refl [] _) hb)
  clear hb
  clear k0 k1 k2 k3 k4 lb
  have fb := hh.blk (b := w.heap.size) (o := Obj.cells #[.int .u8 op, .int .u8 D, .int .u8 S, .int .i16 O, .int .i32 M] 24 (0, 0)) (by simp); have k0 := cell_of fb 0; have k1 := cell_of fb 1; have k2 := cell_of fb 2; have k3 := cell_of fb 3; have k4 := cell_of fb 4; have lb := lt_of_heap fb; simp only [List.getElem?_toArray, List.getElem?_cons_zero, List.getElem?_cons_succ] at k0 k1 k2 k3 k4; clear fb
  go_wp2_with fail
  go_loopg [8] l.length (fun kq v8 w' => ∃ i : Nat, v8 = .int .i64 (i : Int) ∧ kq + i = l.length ∧ SepK w w' [(w.heap.size, Obj.cells #[.int .u8 op, .int .u8 D, .int .u8 S, .int .i16 O, .int .i32 M] 24 (0, 0))] (star (rowR 5 1 (.slice A l.length c) (l.map enc8)) emp))
  case atStart => exact ⟨0, rfl, rfl, hh⟩
  case round =>
    clear hh
    clear k0 k1 k2 k3 k4 lb
    obtain ⟨i, rfl, hk2, hh⟩ := hrel
    by_cases hi : i < l.length
    · have z1 : decide ((i : Int) < (l.length : Int)) = true := decide_eq_true (by omega)
      obtain ⟨x, hx⟩ : ∃ x, l[i]? = some x := ⟨l[i], List.getElem?_eq_getElem hi⟩
      have y1 : decide (11 ≤ x) = false := decide_eq_false (by have := hl1 i x hx; omega)
      obtain ⟨A8, c8, e8, hr8⟩ := hh.row
      rw [List.length_map] at e8
      cases e8
      obtain ⟨b, off, rfl, q0⟩ := row8_cell hr8 hx
      have g0 : (0 : Int) ≤ (i : Int) := by omega
      have g1 : (i : Int) < (l.length : Int) := by omega
      by_cases i0 : i = 0
      · subst i0
        clear hr8
        rw [Nat.add_zero] at q0
        go_upto_region 10 with fail
        go_quiet (fail)
        go_wp2_with fail
        go_roundg (gk - 1)
        case measure => omega
        case rel => exact ⟨1, by go_num, by omega, hh.upd ((Upd.refl [] _).drewN _)⟩
      · have i1 : i = 1 := by omega
        obtain ⟨y, hy⟩ : ∃ y, l[0]? = some y := ⟨l[0], List.getElem?_eq_getElem (by omega)⟩
        obtain ⟨b', off', e', q1⟩ := row8_cell hr8 hy
        cases e'
        have y2 : decide (x ≤ y) = false := decide_eq_false (by have := hl2 y x hy (by rw [← i1]; exact hx); omega)
        have y3 : decide (0 < (i : Int)) = true := decide_eq_true (by omega)
        have y3n : 0 < i := by omega
        have y4 : IntKind.i64.wrap ((i : Int) - 1) = 0 := by rw [i1]; decide
        have hi1 : Unit → i = 1 := fun _ => i1
        have g2 : (0 : Int) < (l.length : Int) := by omega
        clear hr8 i1 i0
        rw [Nat.add_zero] at q1
        go_upto_region 10 with fail
        go_quiet (fail)
        go_wp2_with fail
        go_roundg (gk - 1)
        case measure => omega
        case rel => exact ⟨i + 1, by go_num, by omega, hh.upd ((Upd.refl [] _).drewN _)⟩
    · have z1 : decide ((i : Int) < (l.length : Int)) = false := decide_eq_false (by omega)
      have fb := hh.blk (b := w.heap.size) (o := Obj.cells #[.int .u8 op, .int .u8 D, .int .u8 S, .int .i16 O, .int .i32 M] 24 (0, 0)) (by simp); have k0 := cell_of fb 0; have k1 := cell_of fb 1; have k2 := cell_of fb 2; have k3 := cell_of fb 3; have k4 := cell_of fb 4; have lb := lt_of_heap fb; simp only [List.getElem?_toArray, List.getElem?_cons_zero, List.getElem?_cons_succ] at k0 k1 k2 k3 k4; clear fb
      go_wp2_with (first | (go_at_call 25; refine (wide_c h _).mono ?_; rw [hwd]; rintro e w5 ⟨rfl, hb⟩; replace hh := hh.upd (up_below (Upd.refl [] _) hb); clear hb; clear k0 k1 k2 k3 k4 lb; have fb := hh.blk (b := w.heap.size) (o := Obj.cells #[.int .u8 op, .int .u8 D, .int .u8 S, .int .i16 O, .int .i32 M] 24 (0, 0)) (by simp); have k0 := cell_of fb 0; have k1 := cell_of fb 1; have k2 := cell_of fb 2; have k3 := cell_of fb 3; have k4 := cell_of fb 4; have lb := lt_of_heap fb; simp only [List.getElem?_toArray, List.getElem?_cons_zero, List.getElem?_cons_succ] at k0 k1 k2 k3 k4; clear fb) | (go_at_call 14; refine (alive_c _).mono ?_; rintro e w6 ⟨rfl, hb⟩; replace hh := hh.upd (up_below (Upd.refl [] _) hb); clear hb))
      go_ret
      exact ⟨rfl, hh.u⟩

set_option maxHeartbeats 4000000 in
set_option maxRecDepth 100000 in
include h in
theorem sound_2_4_f (hk : kindF op D S O M = 2) (l : List Int) (hl : readsF op D S O M = l) (hlen : l.length ≤ 2) (hl1 : ∀ (i : Nat) (x : Int), l[i]? = some x → x < 11) (hl2 : ∀ (x y : Int), l[0]? = some x → l[1]? = some y → x < y)
    (hw : writesF op D S O M = (D, true)) (hn : sizeF op D S O M = 4) (hwd : wideF op D S O M = false) (hD : D < 10) (hd : D < 11) (hs : S < 11) :
    Calls Try.prog 6 #[.agg #[.int .u8 op, .int .u8 D, .int .u8 S, .int .i16 O, .int .i32 M]] w fun e w' => e = .returned (.bool true) ∧ Upd [] w w' := by
  have yD : decide (10 ≤ D) = false := decide_eq_false (by omega)
  have y5 : decide (D < 11) = true := decide_eq_true hd
  have y6 : decide (S < 11) = true := decide_eq_true hs
  have hh := (SepK.start w).alloc (Obj.cells #[.int .u8 op, .int .u8 D, .int .u8 S, .int .i16 O, .int .i32 M] 24)
  go_enter Try.func6, Try.ntmps6
  go_wp2_with fail
  refine (kind_c h _).mono ?_
  rw [hk]
  rintro e w1 ⟨rfl, hb⟩
  replace hh := hh.upd (up_below (Upd.refl [] _) hb)
  clear hb
  have fb := hh.blk (b := w.heap.size) (o := Obj.cells #[.int .u8 op, .int .u8 D, .int .u8 S, .int .i16 O, .int .i32 M] 24 (0, 0)) (by simp); have k0 := cell_of fb 0; have k1 := cell_of fb 1; have k2 := cell_of fb 2; have k3 := cell_of fb 3; have k4 := cell_of fb 4; have lb := lt_of_heap fb; simp only [List.getElem?_toArray, List.getElem?_cons_zero, List.getElem?_cons_succ] at k0 k1 k2 k3 k4; clear fb
  go_wp2_with fail
  refine (reads_c h _).mono ?_
  rw [hl]
  rintro e w2 ⟨v, rfl, hR, hb⟩
  replace hh := hh.more (up_below (Upd.refl [] _) hb) (Kd_row hR) (fun _ hb => hb)
  clear hb hR
  obtain ⟨A, c, rfl, -⟩ := hh.row
  rw [List.length_map] at hh
  clear k0 k1 k2 k3 k4 lb
  have fb := hh.blk (b := w.heap.size) (o := Obj.cells #[.int .u8 op, .int .u8 D, .int .u8 S, .int .i16 O, .int .i32 M] 24 (0, 0)) (by simp); have k0 := cell_of fb 0; have k1 := cell_of fb 1; have k2 := cell_of fb 2; have k3 := cell_of fb 3; have k4 := cell_of fb 4; have lb := lt_of_heap fb; simp only [List.getElem?_toArray, List.getElem?_cons_zero, List.getElem?_cons_succ] at k0 k1 k2 k3 k4; clear fb
  go_wp2_with fail
  refine (writes_c h _).mono ?_
  rw [hw]
  rintro e w3 ⟨rfl, hb⟩
  replace hh := hh.upd (up_below (Upd.refl [] _) hb)
  clear hb
  clear k0 k1 k2 k3 k4 lb
  have fb := hh.blk (b := w.heap.size) (o := Obj.cells #[.int .u8 op, .int .u8 D, .int .u8 S, .int .i16 O, .int .i32 M] 24 (0, 0)) (by simp); have k0 := cell_of fb 0; have k1 := cell_of fb 1; have k2 := cell_of fb 2; have k3 := cell_of fb 3; have k4 := cell_of fb 4; have lb := lt_of_heap fb; simp only [List.getElem?_toArray, List.getElem?_cons_zero, List.getElem?_cons_succ] at k0 k1 k2 k3 k4; clear fb
  go_wp2_with fail
  refine (size_c h _).mono ?_
  rw [hn]
  rintro e w4 ⟨rfl, hb⟩
  replace hh := hh.upd (up_below (Upd.refl [] _) hb)
  clear hb
  clear k0 k1 k2 k3 k4 lb
  have fb := hh.blk (b := w.heap.size) (o := Obj.cells #[.int .u8 op, .int .u8 D, .int .u8 S, .int .i16 O, .int .i32 M] 24 (0, 0)) (by simp); have k0 := cell_of fb 0; have k1 := cell_of fb 1; have k2 := cell_of fb 2; have k3 := cell_of fb 3; have k4 := cell_of fb 4; have lb := lt_of_heap fb; simp only [List.getElem?_toArray, List.getElem?_cons_zero, List.getElem?_cons_succ] at k0 k1 k2 k3 k4; clear fb
  go_wp2_with fail
  go_loopg [8] l.length (fun kq v8 w' => ∃ i : Nat, v8 = .int .i64 (i : Int) ∧ kq + i = l.length ∧ SepK w w' [(w.heap.size, Obj.cells #[.int .u8 op, .int .u8 D, .int .u8 S, .int .i16 O, .int .i32 M] 24 (0, 0))] (star (rowR 5 1 (.slice A l.length c) (l.map enc8)) emp))
  case atStart => exact ⟨0, rfl, rfl, hh⟩
  case round =>
    clear hh
    clear k0 k1 k2 k3 k4 lb
    obtain ⟨i, rfl, hk2, hh⟩ := hrel
    by_cases hi : i < l.length
    · have z1 : decide ((i : Int) < (l.length : Int)) = true := decide_eq_true (by omega)
      obtain ⟨x, hx⟩ : ∃ x, l[i]? = some x := ⟨l[i], List.getElem?_eq_getElem hi⟩
      have y1 : decide (11 ≤ x) = false := decide_eq_false (by have := hl1 i x hx; omega)
      obtain ⟨A8, c8, e8, hr8⟩ := hh.row
      rw [List.length_map] at e8
      cases e8
      obtain ⟨b, off, rfl, q0⟩ := row8_cell hr8 hx
      have g0 : (0 : Int) ≤ (i : Int) := by omega
      have g1 : (i : Int) < (l.length : Int) := by omega
      by_cases i0 : i = 0
      · subst i0
        clear hr8
        rw [Nat.add_zero] at q0
        go_upto_region 10 with fail
        go_quiet (fail)
        go_wp2_with fail
        go_roundg (gk - 1)
        case measure => omega
        case rel => exact ⟨1, by go_num, by omega, hh.upd ((Upd.refl [] _).drewN _)⟩
      · have i1 : i = 1 := by omega
        obtain ⟨y, hy⟩ : ∃ y, l[0]? = some y := ⟨l[0], List.getElem?_eq_getElem (by omega)⟩
        obtain ⟨b', off', e', q1⟩ := row8_cell hr8 hy
        cases e'
        have y2 : decide (x ≤ y) = false := decide_eq_false (by have := hl2 y x hy (by rw [← i1]; exact hx); omega)
        have y3 : decide (0 < (i : Int)) = true := decide_eq_true (by omega)
        have y3n : 0 < i := by omega
        have y4 : IntKind.i64.wrap ((i : Int) - 1) = 0 := by rw [i1]; decide
        have hi1 : Unit → i = 1 := fun _ => i1
        have g2 : (0 : Int) < (l.length : Int) := by omega
        clear hr8 i1 i0
        rw [Nat.add_zero] at q1
        go_upto_region 10 with fail
        go_quiet (fail)
        go_wp2_with fail
        go_roundg (gk - 1)
        case measure => omega
        case rel => exact ⟨i + 1, by go_num, by omega, hh.upd ((Upd.refl [] _).drewN _)⟩
    · have z1 : decide ((i : Int) < (l.length : Int)) = false := decide_eq_false (by omega)
      have fb := hh.blk (b := w.heap.size) (o := Obj.cells #[.int .u8 op, .int .u8 D, .int .u8 S, .int .i16 O, .int .i32 M] 24 (0, 0)) (by simp); have k0 := cell_of fb 0; have k1 := cell_of fb 1; have k2 := cell_of fb 2; have k3 := cell_of fb 3; have k4 := cell_of fb 4; have lb := lt_of_heap fb; simp only [List.getElem?_toArray, List.getElem?_cons_zero, List.getElem?_cons_succ] at k0 k1 k2 k3 k4; clear fb
      go_wp2_with (first | (go_at_call 25; refine (wide_c h _).mono ?_; rw [hwd]; rintro e w5 ⟨rfl, hb⟩; replace hh := hh.upd (up_below (Upd.refl [] _) hb); clear hb; clear k0 k1 k2 k3 k4 lb; have fb := hh.blk (b := w.heap.size) (o := Obj.cells #[.int .u8 op, .int .u8 D, .int .u8 S, .int .i16 O, .int .i32 M] 24 (0, 0)) (by simp); have k0 := cell_of fb 0; have k1 := cell_of fb 1; have k2 := cell_of fb 2; have k3 := cell_of fb 3; have k4 := cell_of fb 4; have lb := lt_of_heap fb; simp only [List.getElem?_toArray, List.getElem?_cons_zero, List.getElem?_cons_succ] at k0 k1 k2 k3 k4; clear fb) | (go_at_call 14; refine (alive_c _).mono ?_; rintro e w6 ⟨rfl, hb⟩; replace hh := hh.upd (up_below (Upd.refl [] _) hb); clear hb))
      go_ret
      exact ⟨rfl, hh.u⟩

set_option maxHeartbeats 4000000 in
set_option maxRecDepth 100000 in
include h in
theorem sound_2_8_f (hk : kindF op D S O M = 2) (l : List Int) (hl : readsF op D S O M = l) (hlen : l.length ≤ 2) (hl1 : ∀ (i : Nat) (x : Int), l[i]? = some x → x < 11) (hl2 : ∀ (x y : Int), l[0]? = some x → l[1]? = some y → x < y)
    (hw : writesF op D S O M = (D, true)) (hn : sizeF op D S O M = 8) (hwd : wideF op D S O M = false) (hD : D < 10) (hd : D < 11) (hs : S < 11) :
    Calls Try.prog 6 #[.agg #[.int .u8 op, .int .u8 D, .int .u8 S, .int .i16 O, .int .i32 M]] w fun e w' => e = .returned (.bool true) ∧ Upd [] w w' := by
  have yD : decide (10 ≤ D) = false := decide_eq_false (by omega)
  have y5 : decide (D < 11) = true := decide_eq_true hd
  have y6 : decide (S < 11) = true := decide_eq_true hs
  have hh := (SepK.start w).alloc (Obj.cells #[.int .u8 op, .int .u8 D, .int .u8 S, .int .i16 O, .int .i32 M] 24)
  go_enter Try.func6, Try.ntmps6
  go_wp2_with fail
  refine (kind_c h _).mono ?_
  rw [hk]
  rintro e w1 ⟨rfl, hb⟩
  replace hh := hh.upd (up_below (Upd.refl [] _) hb)
  clear hb
  have fb := hh.blk (b := w.heap.size) (o := Obj.cells #[.int .u8 op, .int .u8 D, .int .u8 S, .int .i16 O, .int .i32 M] 24 (0, 0)) (by simp); have k0 := cell_of fb 0; have k1 := cell_of fb 1; have k2 := cell_of fb 2; have k3 := cell_of fb 3; have k4 := cell_of fb 4; have lb := lt_of_heap fb; simp only [List.getElem?_toArray, List.getElem?_cons_zero, List.getElem?_cons_succ] at k0 k1 k2 k3 k4; clear fb
  go_wp2_with fail
  refine (reads_c h _).mono ?_
  rw [hl]
  rintro e w2 ⟨v, rfl, hR, hb⟩
  replace hh := hh.more (up_below (Upd.refl [] _) hb) (Kd_row hR) (fun _ hb => hb)
  clear hb hR
  obtain ⟨A, c, rfl, -⟩ := hh.row
  rw [List.length_map] at hh
  clear k0 k1 k2 k3 k4 lb
  have fb := hh.blk (b := w.heap.size) (o := Obj.cells #[.int .u8 op, .int .u8 D, .int .u8 S, .int .i16 O, .int .i32 M] 24 (0, 0)) (by simp); have k0 := cell_of fb 0; have k1 := cell_of fb 1; have k2 := cell_of fb 2; have k3 := cell_of fb 3; have k4 := cell_of fb 4; have lb := lt_of_heap fb; simp only [List.getElem?_toArray, List.getElem?_cons_zero, List.getElem?_cons_succ] at k0 k1 k2 k3 k4; clear fb
  go_wp2_with fail
  refine (writes_c h _).mono ?_
  rw [hw]
  rintro e w3 ⟨rfl, hb⟩
  replace hh := hh.upd (up_below (Upd.refl [] _) hb)
  clear hb
  clear k0 k1 k2 k3 k4 lb
  have fb := hh.blk (b := w.heap.size) (o := Obj.cells #[.int .u8 op, .int .u8 D, .int .u8 S, .int .i16 O, .int .i32 M] 24 (0, 0)) (by simp); have k0 := cell_of fb 0; have k1 := cell_of fb 1; have k2 := cell_of fb 2; have k3 := cell_of fb 3; have k4 := cell_of fb 4; have lb := lt_of_heap fb; simp only [List.getElem?_toArray, List.getElem?_cons_zero, List.getElem?_cons_succ] at k0 k1 k2 k3 k4; clear fb
  go_wp2_with fail
  refine (size_c h _).mono ?_
  rw [hn]
  rintro e w4 ⟨rfl, hb⟩
  replace hh := hh.upd (up_below (Upd.refl [] _) hb)
  clear hb
  clear k0 k1 k2 k3 k4 lb
  have fb := hh.blk (b := w.heap.size) (o := Obj.cells #[.int .u8 op, .int .u8 D, .int .u8 S, .int .i16 O, .int .i32 M] 24 (0, 0)) (by simp); have k0 := cell_of fb 0; have k1 := cell_of fb 1; have k2 := cell_of fb 2; have k3 := cell_of fb 3; have k4 := cell_of fb 4; have lb := lt_of_heap fb; simp only [List.getElem?_toArray, List.getElem?_cons_zero, List.getElem?_cons_succ] at k0 k1 k2 k3 k4; clear fb
  go_wp2_with fail
  go_loopg [8] l.length (fun kq v8 w' => ∃ i : Nat, v8 = .int .i64 (i : Int) ∧ kq + i = l.length ∧ SepK w w' [(w.heap.size, Obj.cells #[.int .u8 op, .int .u8 D, .int .u8 S, .int .i16 O, .int .i32 M] 24 (0, 0))] (star (rowR 5 1 (.slice A l.length c) (l.map enc8)) emp))
  case atStart => exact ⟨0, rfl, rfl, hh⟩
  case round =>
    clear hh
    clear k0 k1 k2 k3 k4 lb
    obtain ⟨i, rfl, hk2, hh⟩ := hrel
    by_cases hi : i < l.length
    · have z1 : decide ((i : Int) < (l.length : Int)) = true := decide_eq_true (by omega)
      obtain ⟨x, hx⟩ : ∃ x, l[i]? = some x := ⟨l[i], List.getElem?_eq_getElem hi⟩
      have y1 : decide (11 ≤ x) = false := decide_eq_false (by have := hl1 i x hx; omega)
      obtain ⟨A8, c8, e8, hr8⟩ := hh.row
      rw [List.length_map] at e8
      cases e8
      obtain ⟨b, off, rfl, q0⟩ := row8_cell hr8 hx
      have g0 : (0 : Int) ≤ (i : Int) := by omega
      have g1 : (i : Int) < (l.length : Int) := by omega
      by_cases i0 : i = 0
      · subst i0
        clear hr8
        rw [Nat.add_zero] at q0
        go_upto_region 10 with fail
        go_quiet (fail)
        go_wp2_with fail
        go_roundg (gk - 1)
        case measure => omega
        case rel => exact ⟨1, by go_num, by omega, hh.upd ((Upd.refl [] _).drewN _)⟩
      · have i1 : i = 1 := by omega
        obtain ⟨y, hy⟩ : ∃ y, l[0]? = some y := ⟨l[0], List.getElem?_eq_getElem (by omega)⟩
        obtain ⟨b', off', e', q1⟩ := row8_cell hr8 hy
        cases e'
        have y2 : decide (x ≤ y) = false := decide_eq_false (by have := hl2 y x hy (by rw [← i1]; exact hx); omega)
        have y3 : decide (0 < (i : Int)) = true := decide_eq_true (by omega)
        have y3n : 0 < i := by omega
        have y4 : IntKind.i64.wrap ((i : Int) - 1) = 0 := by rw [i1]; decide
        have hi1 : Unit → i = 1 := fun _ => i1
        have g2 : (0 : Int) < (l.length : Int) := by omega
        clear hr8 i1 i0
        rw [Nat.add_zero] at q1
        go_upto_region 10 with fail
        go_quiet (fail)
        go_wp2_with fail
        go_roundg (gk - 1)
        case measure => omega
        case rel => exact ⟨i + 1, by go_num, by omega, hh.upd ((Upd.refl [] _).drewN _)⟩
    · have z1 : decide ((i : Int) < (l.length : Int)) = false := decide_eq_false (by omega)
      have fb := hh.blk (b := w.heap.size) (o := Obj.cells #[.int .u8 op, .int .u8 D, .int .u8 S, .int .i16 O, .int .i32 M] 24 (0, 0)) (by simp); have k0 := cell_of fb 0; have k1 := cell_of fb 1; have k2 := cell_of fb 2; have k3 := cell_of fb 3; have k4 := cell_of fb 4; have lb := lt_of_heap fb; simp only [List.getElem?_toArray, List.getElem?_cons_zero, List.getElem?_cons_succ] at k0 k1 k2 k3 k4; clear fb
      go_wp2_with (first | (go_at_call 25; refine (wide_c h _).mono ?_; rw [hwd]; rintro e w5 ⟨rfl, hb⟩; replace hh := hh.upd (up_below (Upd.refl [] _) hb); clear hb; clear k0 k1 k2 k3 k4 lb; have fb := hh.blk (b := w.heap.size) (o := Obj.cells #[.int .u8 op, .int .u8 D, .int .u8 S, .int .i16 O, .int .i32 M] 24 (0, 0)) (by simp); have k0 := cell_of fb 0; have k1 := cell_of fb 1; have k2 := cell_of fb 2; have k3 := cell_of fb 3; have k4 := cell_of fb 4; have lb := lt_of_heap fb; simp only [List.getElem?_toArray, List.getElem?_cons_zero, List.getElem?_cons_succ] at k0 k1 k2 k3 k4; clear fb) | (go_at_call 14; refine (alive_c _).mono ?_; rintro e w6 ⟨rfl, hb⟩; replace hh := hh.upd (up_below (Upd.refl [] _) hb); clear hb))
      go_ret
      exact ⟨rfl, hh.u⟩

set_option maxHeartbeats 4000000 in
set_option maxRecDepth 100000 in
include h in
theorem sound_3_1_f (hk : kindF op D S O M = 3) (l : List Int) (hl : readsF op D S O M = l) (hlen : l.length ≤ 2) (hl1 : ∀ (i : Nat) (x : Int), l[i]? = some x → x < 11) (hl2 : ∀ (x y : Int), l[0]? = some x → l[1]? = some y → x < y)
    (hw : writesF op D S O M = (0, false)) (hn : sizeF op D S O M = 1) (hwd : wideF op D S O M = false) (hd : D < 11) (hs : S < 11) :
    Calls Try.prog 6 #[.agg #[.int .u8 op, .int .u8 D, .int .u8 S, .int .i16 O, .int .i32 M]] w fun e w' => e = .returned (.bool true) ∧ Upd [] w w' := by
  have y5 : decide (D < 11) = true := decide_eq_true hd
  have y6 : decide (S < 11) = true := decide_eq_true hs
  have hh := (SepK.start w).alloc (Obj.cells #[.int .u8 op, .int .u8 D, .int .u8 S, .int .i16 O, .int .i32 M] 24)
  go_enter Try.func6, Try.ntmps6
  go_wp2_with fail
  refine (kind_c h _).mono ?_
  rw [hk]
  rintro e w1 ⟨rfl, hb⟩
  replace hh := hh.upd (up_below (Upd.refl [] _) hb)
  clear hb
  have fb := hh.blk (b := w.heap.size) (o := Obj.cells #[.int .u8 op, .int .u8 D, .int .u8 S, .int .i16 O, .int .i32 M] 24 (0, 0)) (by simp); have k0 := cell_of fb 0; have k1 := cell_of fb 1; have k2 := cell_of fb 2; have k3 := cell_of fb 3; have k4 := cell_of fb 4; have lb := lt_of_heap fb; simp only [List.getElem?_toArray, List.getElem?_cons_zero, List.getElem?_cons_succ] at k0 k1 k2 k3 k4; clear fb
  go_wp2_with fail
  refine (reads_c h _).mono ?_
  rw [hl]
  rintro e w2 ⟨v, rfl, hR, hb⟩
  replace hh := hh.more (up_below (Upd.refl [] _) hb) (Kd_row hR) (fun _ hb => hb)
  clear hb hR
  obtain ⟨A, c, rfl, -⟩ := hh.row
  rw [List.length_map] at hh
  clear k0 k1 k2 k3 k4 lb
  have fb := hh.blk (b := w.heap.size) (o := Obj.cells #[.int .u8 op, .int .u8 D, .int .u8 S, .int .i16 O, .int .i32 M] 24 (0, 0)) (by simp); have k0 := cell_of fb 0; have k1 := cell_of fb 1; have k2 := cell_of fb 2; have k3 := cell_of fb 3; have k4 := cell_of fb 4; have lb := lt_of_heap fb; simp only [List.getElem?_toArray, List.getElem?_cons_zero, List.getElem?_cons_succ] at k0 k1 k2 k3 k4; clear fb
  go_wp2_with fail
  refine (writes_c h _).mono ?_
  rw [hw]
  rintro e w3 ⟨rfl, hb⟩
  replace hh := hh.upd (up_below (Upd.refl [] _) hb)
  clear hb
  clear k0 k1 k2 k3 k4 lb
  have fb := hh.blk (b := w.heap.size) (o := Obj.cells #[.int .u8 op, .int .u8 D, .int .u8 S, .int .i16 O, .int .i32 M] 24 (0, 0)) (by simp); have k0 := cell_of fb 0; have k1 := cell_of fb 1; have k2 := cell_of fb 2; have k3 := cell_of fb 3; have k4 := cell_of fb 4; have lb := lt_of_heap fb; simp only [List.getElem?_toArray, List.getElem?_cons_zero, List.getElem?_cons_succ] at k0 k1 k2 k3 k4; clear fb
  go_wp2_with fail
  refine (size_c h _).mono ?_
  rw [hn]
  rintro e w4 ⟨rfl, hb⟩
  replace hh := hh.upd (up_below (Upd.refl [] _) hb)
  clear hb
  clear k0 k1 k2 k3 k4 lb
  have fb := hh.blk (b := w.heap.size) (o := Obj.cells #[.int .u8 op, .int .u8 D, .int .u8 S, .int .i16 O, .int .i32 M] 24 (0, 0)) (by simp); have k0 := cell_of fb 0; have k1 := cell_of fb 1; have k2 := cell_of fb 2; have k3 := cell_of fb 3; have k4 := cell_of fb 4; have lb := lt_of_heap fb; simp only [List.getElem?_toArray, List.getElem?_cons_zero, List.getElem?_cons_succ] at k0 k1 k2 k3 k4; clear fb
  go_wp2_with fail
  go_loopg [8] l.length (fun kq v8 w' => ∃ i : Nat, v8 = .int .i64 (i : Int) ∧ kq + i = l.length ∧ SepK w w' [(w.heap.size, Obj.cells #[.int .u8 op, .int .u8 D, .int .u8 S, .int .i16 O, .int .i32 M] 24 (0, 0))] (star (rowR 5 1 (.slice A l.length c) (l.map enc8)) emp))
  case atStart => exact ⟨0, rfl, rfl, hh⟩
  case round =>
    clear hh
    clear k0 k1 k2 k3 k4 lb
    obtain ⟨i, rfl, hk2, hh⟩ := hrel
    by_cases hi : i < l.length
    · have z1 : decide ((i : Int) < (l.length : Int)) = true := decide_eq_true (by omega)
      obtain ⟨x, hx⟩ : ∃ x, l[i]? = some x := ⟨l[i], List.getElem?_eq_getElem hi⟩
      have y1 : decide (11 ≤ x) = false := decide_eq_false (by have := hl1 i x hx; omega)
      obtain ⟨A8, c8, e8, hr8⟩ := hh.row
      rw [List.length_map] at e8
      cases e8
      obtain ⟨b, off, rfl, q0⟩ := row8_cell hr8 hx
      have g0 : (0 : Int) ≤ (i : Int) := by omega
      have g1 : (i : Int) < (l.length : Int) := by omega
      by_cases i0 : i = 0
      · subst i0
        clear hr8
        rw [Nat.add_zero] at q0
        go_upto_region 10 with fail
        go_quiet (fail)
        go_wp2_with fail
        go_roundg (gk - 1)
        case measure => omega
        case rel => exact ⟨1, by go_num, by omega, hh.upd ((Upd.refl [] _).drewN _)⟩
      · have i1 : i = 1 := by omega
        obtain ⟨y, hy⟩ : ∃ y, l[0]? = some y := ⟨l[0], List.getElem?_eq_getElem (by omega)⟩
        obtain ⟨b', off', e', q1⟩ := row8_cell hr8 hy
        cases e'
        have y2 : decide (x ≤ y) = false := decide_eq_false (by have := hl2 y x hy (by rw [← i1]; exact hx); omega)
        have y3 : decide (0 < (i : Int)) = true := decide_eq_true (by omega)
        have y3n : 0 < i := by omega
        have y4 : IntKind.i64.wrap ((i : Int) - 1) = 0 := by rw [i1]; decide
        have hi1 : Unit → i = 1 := fun _ => i1
        have g2 : (0 : Int) < (l.length : Int) := by omega
        clear hr8 i1 i0
        rw [Nat.add_zero] at q1
        go_upto_region 10 with fail
        go_quiet (fail)
        go_wp2_with fail
        go_roundg (gk - 1)
        case measure => omega
        case rel => exact ⟨i + 1, by go_num, by omega, hh.upd ((Upd.refl [] _).drewN _)⟩
    · have z1 : decide ((i : Int) < (l.length : Int)) = false := decide_eq_false (by omega)
      have fb := hh.blk (b := w.heap.size) (o := Obj.cells #[.int .u8 op, .int .u8 D, .int .u8 S, .int .i16 O, .int .i32 M] 24 (0, 0)) (by simp); have k0 := cell_of fb 0; have k1 := cell_of fb 1; have k2 := cell_of fb 2; have k3 := cell_of fb 3; have k4 := cell_of fb 4; have lb := lt_of_heap fb; simp only [List.getElem?_toArray, List.getElem?_cons_zero, List.getElem?_cons_succ] at k0 k1 k2 k3 k4; clear fb
      go_wp2_with (first | (go_at_call 25; refine (wide_c h _).mono ?_; rw [hwd]; rintro e w5 ⟨rfl, hb⟩; replace hh := hh.upd (up_below (Upd.refl [] _) hb); clear hb; clear k0 k1 k2 k3 k4 lb; have fb := hh.blk (b := w.heap.size) (o := Obj.cells #[.int .u8 op, .int .u8 D, .int .u8 S, .int .i16 O, .int .i32 M] 24 (0, 0)) (by simp); have k0 := cell_of fb 0; have k1 := cell_of fb 1; have k2 := cell_of fb 2; have k3 := cell_of fb 3; have k4 := cell_of fb 4; have lb := lt_of_heap fb; simp only [List.getElem?_toArray, List.getElem?_cons_zero, List.getElem?_cons_succ] at k0 k1 k2 k3 k4; clear fb) | (go_at_call 14; refine (alive_c _).mono ?_; rintro e w6 ⟨rfl, hb⟩; replace hh := hh.upd (up_below (Upd.refl [] _) hb); clear hb))
      go_ret
      exact ⟨rfl, hh.u⟩

set_option maxHeartbeats 4000000 in
set_option maxRecDepth 100000 in
include h in
theorem sound_3_2_f (hk : kindF op D S O M = 3) (l : List Int) (hl : readsF op D S O M = l) (hlen : l.length ≤ 2) (hl1 : ∀ (i : Nat) (x : Int), l[i]? = some x → x < 11) (hl2 : ∀ (x y : Int), l[0]? = some x → l[1]? = some y → x < y)
    (hw : writesF op D S O M = (0, false)) (hn : sizeF op D S O M = 2) (hwd : wideF op D S O M = false) (hd : D < 11) (hs : S < 11) :
    Calls Try.prog 6 #[.agg #[.int .u8 op, .int .u8 D, .int .u8 S, .int .i16 O, .int .i32 M]] w fun e w' => e = .returned (.bool true) ∧ Upd [] w w' := by
  have y5 : decide (D < 11) = true := decide_eq_true hd
  have y6 : decide (S < 11) = true := decide_eq_true hs
  have hh := (SepK.start w).alloc (Obj.cells #[.int .u8 op, .int .u8 D, .int .u8 S, .int .i16 O, .int .i32 M] 24)
  go_enter Try.func6, Try.ntmps6
  go_wp2_with fail
  refine (kind_c h _).mono ?_
  rw [hk]
  rintro e w1 ⟨rfl, hb⟩
  replace hh := hh.upd (up_below (Upd.refl [] _) hb)
  clear hb
  have fb := hh.blk (b := w.heap.size) (o := Obj.cells #[.int .u8 op, .int .u8 D, .int .u8 S, .int .i16 O, .int .i32 M] 24 (0, 0)) (by simp); have k0 := cell_of fb 0; have k1 := cell_of fb 1; have k2 := cell_of fb 2; have k3 := cell_of fb 3; have k4 := cell_of fb 4; have lb := lt_of_heap fb; simp only [List.getElem?_toArray, List.getElem?_cons_zero, List.getElem?_cons_succ] at k0 k1 k2 k3 k4; clear fb
  go_wp2_with fail
  refine (reads_c h _).mono ?_
  rw [hl]
  rintro e w2 ⟨v, rfl, hR, hb⟩
  replace hh := hh.more (up_below (Upd.refl [] _) hb) (Kd_row hR) (fun _ hb => hb)
  clear hb hR
  obtain ⟨A, c, rfl, -⟩ := hh.row
  rw [List.length_map] at hh
  clear k0 k1 k2 k3 k4 lb
  have fb := hh.blk (b := w.heap.size) (o := Obj.cells #[.int .u8 op, .int .u8 D, .int .u8 S, .int .i16 O, .int .i32 M] 24 (0, 0)) (by simp); have k0 := cell_of fb 0; have k1 := cell_of fb 1; have k2 := cell_of fb 2; have k3 := cell_of fb 3; have k4 := cell_of fb 4; have lb := lt_of_heap fb; simp only [List.getElem?_toArray, List.getElem?_cons_zero, List.getElem?_cons_succ] at k0 k1 k2 k3 k4; clear fb
  go_wp2_with fail
  refine (writes_c h _).mono ?_
  rw [hw]
  rintro e w3 ⟨rfl, hb⟩
  replace hh := hh.upd (up_below (Upd.refl [] _) hb)
  clear hb
  clear k0 k1 k2 k3 k4 lb
  have fb := hh.blk (b := w.heap.size) (o := Obj.cells #[.int .u8 op, .int .u8 D, .int .u8 S, .int .i16 O, .int .i32 M] 24 (0, 0)) (by simp); have k0 := cell_of fb 0; have k1 := cell_of fb 1; have k2 := cell_of fb 2; have k3 := cell_of fb 3; have k4 := cell_of fb 4; have lb := lt_of_heap fb; simp only [List.getElem?_toArray, List.getElem?_cons_zero, List.getElem?_cons_succ] at k0 k1 k2 k3 k4; clear fb
  go_wp2_with fail
  refine (size_c h _).mono ?_
  rw [hn]
  rintro e w4 ⟨rfl, hb⟩
  replace hh := hh.upd (up_below (Upd.refl [] _) hb)
  clear hb
  clear k0 k1 k2 k3 k4 lb
  have fb := hh.blk (b := w.heap.size) (o := Obj.cells #[.int .u8 op, .int .u8 D, .int .u8 S, .int .i16 O, .int .i32 M] 24 (0, 0)) (by simp); have k0 := cell_of fb 0; have k1 := cell_of fb 1; have k2 := cell_of fb 2; have k3 := cell_of fb 3; have k4 := cell_of fb 4; have lb := lt_of_heap fb; simp only [List.getElem?_toArray, List.getElem?_cons_zero, List.getElem?_cons_succ] at k0 k1 k2 k3 k4; clear fb
  go_wp2_with fail
  go_loopg [8] l.length (fun kq v8 w' => ∃ i : Nat, v8 = .int .i64 (i : Int) ∧ kq + i = l.length ∧ SepK w w' [(w.heap.size, Obj.cells #[.int .u8 op, .int .u8 D, .int .u8 S, .int .i16 O, .int .i32 M] 24 (0, 0))] (star (rowR 5 1 (.slice A l.length c) (l.map enc8)) emp))
  case atStart => exact ⟨0, rfl, rfl, hh⟩
  case round =>
    clear hh
    clear k0 k1 k2 k3 k4 lb
    obtain ⟨i, rfl, hk2, hh⟩ := hrel
    by_cases hi : i < l.length
    · have z1 : decide ((i : Int) < (l.length : Int)) = true := decide_eq_true (by omega)
      obtain ⟨x, hx⟩ : ∃ x, l[i]? = some x := ⟨l[i], List.getElem?_eq_getElem hi⟩
      have y1 : decide (11 ≤ x) = false := decide_eq_false (by have := hl1 i x hx; omega)
      obtain ⟨A8, c8, e8, hr8⟩ := hh.row
      rw [List.length_map] at e8
      cases e8
      obtain ⟨b, off, rfl, q0⟩ := row8_cell hr8 hx
      have g0 : (0 : Int) ≤ (i : Int) := by omega
      have g1 : (i : Int) < (l.length : Int) := by omega
      by_cases i0 : i = 0
      · subst i0
        clear hr8
        rw [Nat.add_zero] at q0
        go_upto_region 10 with fail
        go_quiet (fail)
        go_wp2_with fail
        go_roundg (gk - 1)
        case measure => omega
        case rel => exact ⟨1, by go_num, by omega, hh.upd ((Upd.refl [] _).drewN _)⟩
      · have i1 : i = 1 := by omega
        obtain ⟨y, hy⟩ : ∃ y, l[0]? = some y := ⟨l[0], List.getElem?_eq_getElem (by omega)⟩
        obtain ⟨b', off', e', q1⟩ := row8_cell hr8 hy
        cases e'
        have y2 : decide (x ≤ y) = false := decide_eq_false (by have := hl2 y x hy (by rw [← i1]; exact hx); omega)
        have y3 : decide (0 < (i : Int)) = true := decide_eq_true (by omega)
        have y3n : 0 < i := by omega
        have y4 : IntKind.i64.wrap ((i : Int) - 1) = 0 := by rw [i1]; decide
        have hi1 : Unit → i = 1 := fun _ => i1
        have g2 : (0 : Int) < (l.length : Int) := by omega
        clear hr8 i1 i0
        rw [Nat.add_zero] at q1
        go_upto_region 10 with fail
        go_quiet (fail)
        go_wp2_with fail
        go_roundg (gk - 1)
        case measure => omega
        case rel => exact ⟨i + 1, by go_num, by omega, hh.upd ((Upd.refl [] _).drewN _)⟩
    · have z1 : decide ((i : Int) < (l.length : Int)) = false := decide_eq_false (by omega)
      have fb := hh.blk (b := w.heap.size) (o := Obj.cells #[.int .u8 op, .int .u8 D, .int .u8 S, .int .i16 O, .int .i32 M] 24 (0, 0)) (by simp); have k0 := cell_of fb 0; have k1 := cell_of fb 1; have k2 := cell_of fb 2; have k3 := cell_of fb 3; have k4 := cell_of fb 4; have lb := lt_of_heap fb; simp only [List.getElem?_toArray, List.getElem?_cons_zero, List.getElem?_cons_succ] at k0 k1 k2 k3 k4; clear fb
      go_wp2_with (first | (go_at_call 25; refine (wide_c h _).mono ?_; rw [hwd]; rintro e w5 ⟨rfl, hb⟩; replace hh := hh.upd (up_below (Upd.refl [] _) hb); clear hb; clear k0 k1 k2 k3 k4 lb; have fb := hh.blk (b := w.heap.size) (o := Obj.cells #[.int .u8 op, .int .u8 D, .int .u8 S, .int .i16 O, .int .i32 M] 24 (0, 0)) (by simp); have k0 := cell_of fb 0; have k1 := cell_of fb 1; have k2 := cell_of fb 2; have k3 := cell_of fb 3; have k4 := cell_of fb 4; have lb := lt_of_heap fb; simp only [List.getElem?_toArray, List.getElem?_cons_zero, List.getElem?_cons_succ] at k0 k1 k2 k3 k4; clear fb) | (go_at_call 14; refine (alive_c _).mono ?_; rintro e w6 ⟨rfl, hb⟩; replace hh := hh.upd (up_below (Upd.refl [] _) hb); clear hb))
      go_ret
      exact ⟨rfl, hh.u⟩

set_option maxHeartbeats 4000000 in
set_option maxRecDepth 100000 in
include h in
theorem sound_3_4_f (hk : kindF op D S O M = 3) (l : List Int) (hl : readsF op D S O M = l) (hlen : l.length ≤ 2) (hl1 : ∀ (i : Nat) (x : Int), l[i]? = some x → x < 11) (hl2 : ∀ (x y : Int), l[0]? = some x → l[1]? = some y → x < y)
    (hw : writesF op D S O M = (0, false)) (hn : sizeF op D S O M = 4) (hwd : wideF op D S O M = false) (hd : D < 11) (hs : S < 11) :
    Calls Try.prog 6 #[.agg #[.int .u8 op, .int .u8 D, .int .u8 S, .int .i16 O, .int .i32 M]] w fun e w' => e = .returned (.bool true) ∧ Upd [] w w' := by
  have y5 : decide (D < 11) = true := decide_eq_true hd
  have y6 : decide (S < 11) = true := decide_eq_true hs
  have hh := (SepK.start w).alloc (Obj.cells #[.int .u8 op, .int .u8 D, .int .u8 S, .int .i16 O, .int .i32 M] 24)
  go_enter Try.func6, Try.ntmps6
  go_wp2_with fail
  refine (kind_c h _).mono ?_
  rw [hk]
  rintro e w1 ⟨rfl, hb⟩
  replace hh := hh.upd (up_below (Upd.refl [] _) hb)
  clear hb
  have fb := hh.blk (b := w.heap.size) (o := Obj.cells #[.int .u8 op, .int .u8 D, .int .u8 S, .int .i16 O, .int .i32 M] 24 (0, 0)) (by simp); have k0 := cell_of fb 0; have k1 := cell_of fb 1; have k2 := cell_of fb 2; have k3 := cell_of fb 3; have k4 := cell_of fb 4; have lb := lt_of_heap fb; simp only [List.getElem?_toArray, List.getElem?_cons_zero, List.getElem?_cons_succ] at k0 k1 k2 k3 k4; clear fb
  go_wp2_with fail
  refine (reads_c h _).mono ?_
  rw [hl]
  rintro e w2 ⟨v, rfl, hR, hb⟩
  replace hh := hh.more (up_below (Upd.refl [] _) hb) (Kd_row hR) (fun _ hb => hb)
  clear hb hR
  obtain ⟨A, c, rfl, -⟩ := hh.row
  rw [List.length_map] at hh
  clear k0 k1 k2 k3 k4 lb
  have fb := hh.blk (b := w.heap.size) (o := Obj.cells #[.int .u8 op, .int .u8 D, .int .u8 S, .int .i16 O, .int .i32 M] 24 (0, 0)) (by simp); have k0 := cell_of fb 0; have k1 := cell_of fb 1; have k2 := cell_of fb 2; have k3 := cell_of fb 3; have k4 := cell_of fb 4; have lb := lt_of_heap fb; simp only [List.getElem?_toArray, List.getElem?_cons_zero, List.getElem?_cons_succ] at k0 k1 k2 k3 k4; clear fb
  go_wp2_with fail
  refine (writes_c h _).mono ?_
  rw [hw]
  rintro e w3 ⟨rfl, hb⟩
  replace hh := hh.upd (up_below (Upd.refl [] _) hb)
  clear hb
  clear k0 k1 k2 k3 k4 lb
  have fb := hh.blk (b := w.heap.size) (o := Obj.cells #[.int .u8 op, .int .u8 D, .int .u8 S, .int .i16 O, .int .i32 M] 24 (0, 0)) (by simp); have k0 := cell_of fb 0; have k1 := cell_of fb 1; have k2 := cell_of fb 2; have k3 := cell_of fb 3; have k4 := cell_of fb 4; have lb := lt_of_heap fb; simp only [List.getElem?_toArray, List.getElem?_cons_zero, List.getElem?_cons_succ] at k0 k1 k2 k3 k4; clear fb
  go_wp2_with fail
  refine (size_c h _).mono ?_
  rw [hn]
  rintro e w4 ⟨rfl, hb⟩
  replace hh := hh.upd (up_below (Upd.refl [] _) hb)
  clear hb
  clear k0 k1 k2 k3 k4 lb
  have fb := hh.blk (b := w.heap.size) (o := Obj.cells #[.int .u8 op, .int .u8 D, .int .u8 S, .int .i16 O, .int .i32 M] 24 (0, 0)) (by simp); have k0 := cell_of fb 0; have k1 := cell_of fb 1; have k2 := cell_of fb 2; have k3 := cell_of fb 3; have k4 := cell_of fb 4; have lb := lt_of_heap fb; simp only [List.getElem?_toArray, List.getElem?_cons_zero, List.getElem?_cons_succ] at k0 k1 k2 k3 k4; clear fb
  go_wp2_with fail
  go_loopg [8] l.length (fun kq v8 w' => ∃ i : Nat, v8 = .int .i64 (i : Int) ∧ kq + i = l.length ∧ SepK w w' [(w.heap.size, Obj.cells #[.int .u8 op, .int .u8 D, .int .u8 S, .int .i16 O, .int .i32 M] 24 (0, 0))] (star (rowR 5 1 (.slice A l.length c) (l.map enc8)) emp))
  case atStart => exact ⟨0, rfl, rfl, hh⟩
  case round =>
    clear hh
    clear k0 k1 k2 k3 k4 lb
    obtain ⟨i, rfl, hk2, hh⟩ := hrel
    by_cases hi : i < l.length
    · have z1 : decide ((i : Int) < (l.length : Int)) = true := decide_eq_true (by omega)
      obtain ⟨x, hx⟩ : ∃ x, l[i]? = some x := ⟨l[i], List.getElem?_eq_getElem hi⟩
      have y1 : decide (11 ≤ x) = false := decide_eq_false (by have := hl1 i x hx; omega)
      obtain ⟨A8, c8, e8, hr8⟩ := hh.row
      rw [List.length_map] at e8
      cases e8
      obtain ⟨b, off, rfl, q0⟩ := row8_cell hr8 hx
      have g0 : (0 : Int) ≤ (i : Int) := by omega
      have g1 : (i : Int) < (l.length : Int) := by omega
      by_cases i0 : i = 0
      · subst i0
        clear hr8
        rw [Nat.add_zero] at q0
        go_upto_region 10 with fail
        go_quiet (fail)
        go_wp2_with fail
        go_roundg (gk - 1)
        case measure => omega
        case rel => exact ⟨1, by go_num, by omega, hh.upd ((Upd.refl [] _).drewN _)⟩
      · have i1 : i = 1 := by omega
        obtain ⟨y, hy⟩ : ∃ y, l[0]? = some y := ⟨l[0], List.getElem?_eq_getElem (by omega)⟩
        obtain ⟨b', off', e', q1⟩ := row8_cell hr8 hy
        cases e'
        have y2 : decide (x ≤ y) = false := decide_eq_false (by have := hl2 y x hy (by rw [← i1]; exact hx); omega)
        have y3 : decide (0 < (i : Int)) = true := decide_eq_true (by omega)
        have y3n : 0 < i := by omega
        have y4 : IntKind.i64.wrap ((i : Int) - 1) = 0 := by rw [i1]; decide
        have hi1 : Unit → i = 1 := fun _ => i1
        have g2 : (0 : Int) < (l.length : Int) := by omega
        clear hr8 i1 i0
        rw [Nat.add_zero] at q1
        go_upto_region 10 with fail
        go_quiet (fail)
        go_wp2_with fail
        go_roundg (gk - 1)
        case measure => omega
        case rel => exact ⟨i + 1, by go_num, by omega, hh.upd ((Upd.refl [] _).drewN _)⟩
    · have z1 : decide ((i : Int) < (l.length : Int)) = false := decide_eq_false (by omega)
      have fb := hh.blk (b := w.heap.size) (o := Obj.cells #[.int .u8 op, .int .u8 D, .int .u8 S, .int .i16 O, .int .i32 M] 24 (0, 0)) (by simp); have k0 := cell_of fb 0; have k1 := cell_of fb 1; have k2 := cell_of fb 2; have k3 := cell_of fb 3; have k4 := cell_of fb 4; have lb := lt_of_heap fb; simp only [List.getElem?_toArray, List.getElem?_cons_zero, List.getElem?_cons_succ] at k0 k1 k2 k3 k4; clear fb
      go_wp2_with (first | (go_at_call 25; refine (wide_c h _).mono ?_; rw [hwd]; rintro e w5 ⟨rfl, hb⟩; replace hh := hh.upd (up_below (Upd.refl [] _) hb); clear hb; clear k0 k1 k2 k3 k4 lb; have fb := hh.blk (b := w.heap.size) (o := Obj.cells #[.int .u8 op, .int .u8 D, .int .u8 S, .int .i16 O, .int .i32 M] 24 (0, 0)) (by simp); have k0 := cell_of fb 0; have k1 := cell_of fb 1; have k2 := cell_of fb 2; have k3 := cell_of fb 3; have k4 := cell_of fb 4; have lb := lt_of_heap fb; simp only [List.getElem?_toArray, List.getElem?_cons_zero, List.getElem?_cons_succ] at k0 k1 k2 k3 k4; clear fb) | (go_at_call 14; refine (alive_c _).mono ?_; rintro e w6 ⟨rfl, hb⟩; replace hh := hh.upd (up_below (Upd.refl [] _) hb); clear hb))
      go_ret
      exact ⟨rfl, hh.u⟩

set_option maxHeartbeats 4000000 in
set_option maxRecDepth 100000 in
include h in
theorem sound_3_8_f (hk : kindF op D S O M = 3) (l : List Int) (hl : readsF op D S O M = l) (hlen : l.length ≤ 2) (hl1 : ∀ (i : Nat) (x : Int), l[i]? = some x → x < 11) (hl2 : ∀ (x y : Int), l[0]? = some x → l[1]? = some y → x < y)
    (hw : writesF op D S O M = (0, false)) (hn : sizeF op D S O M = 8) (hwd : wideF op D S O M = false) (hd : D < 11) (hs : S < 11) :
    Calls Try.prog 6 #[.agg #[.int .u8 op, .int .u8 D, .int .u8 S, .int .i16 O, .int .i32 M]] w fun e w' => e = .returned (.bool true) ∧ Upd [] w w' := by
  have y5 : decide (D < 11) = true := decide_eq_true hd
  have y6 : decide (S < 11) = true := decide_eq_true hs
  have hh := (SepK.start w).alloc (Obj.cells #[.int .u8 op, .int .u8 D, .int .u8 S, .int .i16 O, .int .i32 M] 24)
  go_enter Try.func6, Try.ntmps6
  go_wp2_with fail
  refine (kind_c h _).mono ?_
  rw [hk]
  rintro e w1 ⟨rfl, hb⟩
  replace hh := hh.upd (up_below (Upd.refl [] _) hb)
  clear hb
  have fb := hh.blk (b := w.heap.size) (o := Obj.cells #[.int .u8 op, .int .u8 D, .int .u8 S, .int .i16 O, .int .i32 M] 24 (0, 0)) (by simp); have k0 := cell_of fb 0; have k1 := cell_of fb 1; have k2 := cell_of fb 2; have k3 := cell_of fb 3; have k4 := cell_of fb 4; have lb := lt_of_heap fb; simp only [List.getElem?_toArray, List.getElem?_cons_zero, List.getElem?_cons_succ] at k0 k1 k2 k3 k4; clear fb
  go_wp2_with fail
  refine (reads_c h _).mono ?_
  rw [hl]
  rintro e w2 ⟨v, rfl, hR, hb⟩
  replace hh := hh.more (up_below (Upd.refl [] _) hb) (Kd_row hR) (fun _ hb => hb)
  clear hb hR
  obtain ⟨A, c, rfl, -⟩ := hh.row
  rw [List.length_map] at hh
  clear k0 k1 k2 k3 k4 lb
  have fb := hh.blk (b := w.heap.size) (o := Obj.cells #[.int .u8 op, .int .u8 D, .int .u8 S, .int .i16 O, .int .i32 M] 24 (0, 0)) (by simp); have k0 := cell_of fb 0; have k1 := cell_of fb 1; have k2 := cell_of fb 2; have k3 := cell_of fb 3; have k4 := cell_of fb 4; have lb := lt_of_heap fb; simp only [List.getElem?_toArray, List.getElem?_cons_zero, List.getElem?_cons_succ] at k0 k1 k2 k3 k4; clear fb
  go_wp2_with fail
  refine (writes_c h _).mono ?_
  rw [hw]
  rintro e w3 ⟨rfl, hb⟩
  replace hh := hh.upd (up_below (Upd.refl [] _) hb)
  clear hb
  clear k0 k1 k2 k3 k4 lb
  have fb := hh.blk (b := w.heap.size) (o := Obj.cells #[.int .u8 op, .int .u8 D, .int .u8 S, .int .i16 O, .int .i32 M] 24 (0, 0)) (by simp); have k0 := cell_of fb 0; have k1 := cell_of fb 1; have k2 := cell_of fb 2; have k3 := cell_of fb 3; have k4 := cell_of fb 4; have lb := lt_of_heap fb; simp only [List.getElem?_toArray, List.getElem?_cons_zero, List.getElem?_cons_succ] at k0 k1 k2 k3 k4; clear fb
  go_wp2_with fail
  refine (size_c h _).mono ?_
  rw [hn]
  rintro e w4 ⟨rfl, hb⟩
  replace hh := hh.upd (up_below (Upd.refl [] _) hb)
  clear hb
  clear k0 k1 k2 k3 k4 lb
  have fb := hh.blk (b := w.heap.size) (o := Obj.cells #[.int .u8 op, .int .u8 D, .int .u8 S, .int .i16 O, .int .i32 M] 24 (0, 0)) (by simp); have k0 := cell_of fb 0; have k1 := cell_of fb 1; have k2 := cell_of fb 2; have k3 := cell_of fb 3; have k4 := cell_of fb 4; have lb := lt_of_heap fb; simp only [List.getElem?_toArray, List.getElem?_cons_zero, List.getElem?_cons_succ] at k0 k1 k2 k3 k4; clear fb
  go_wp2_with fail
  go_loopg [8] l.length (fun kq v8 w' => ∃ i : Nat, v8 = .int .i64 (i : Int) ∧ kq + i = l.length ∧ SepK w w' [(w.heap.size, Obj.cells #[.int .u8 op, .int .u8 D, .int .u8 S, .int .i16 O, .int .i32 M] 24 (0, 0))] (star (rowR 5 1 (.slice A l.length c) (l.map enc8)) emp))
  case atStart => exact ⟨0, rfl, rfl, hh⟩
  case round =>
    clear hh
    clear k0 k1 k2 k3 k4 lb
    obtain ⟨i, rfl, hk2, hh⟩ := hrel
    by_cases hi : i < l.length
    · have z1 : decide ((i : Int) < (l.length : Int)) = true := decide_eq_true (by omega)
      obtain ⟨x, hx⟩ : ∃ x, l[i]? = some x := ⟨l[i], List.getElem?_eq_getElem hi⟩
      have y1 : decide (11 ≤ x) = false := decide_eq_false (by have := hl1 i x hx; omega)
      obtain ⟨A8, c8, e8, hr8⟩ := hh.row
      rw [List.length_map] at e8
      cases e8
      obtain ⟨b, off, rfl, q0⟩ := row8_cell hr8 hx
      have g0 : (0 : Int) ≤ (i : Int) := by omega
      have g1 : (i : Int) < (l.length : Int) := by omega
      by_cases i0 : i = 0
      · subst i0
        clear hr8
        rw [Nat.add_zero] at q0
        go_upto_region 10 with fail
        go_quiet (fail)
        go_wp2_with fail
        go_roundg (gk - 1)
        case measure => omega
        case rel => exact ⟨1, by go_num, by omega, hh.upd ((Upd.refl [] _).drewN _)⟩
      · have i1 : i = 1 := by omega
        obtain ⟨y, hy⟩ : ∃ y, l[0]? = some y := ⟨l[0], List.getElem?_eq_getElem (by omega)⟩
        obtain ⟨b', off', e', q1⟩ := row8_cell hr8 hy
        cases e'
        have y2 : decide (x ≤ y) = false := decide_eq_false (by have := hl2 y x hy (by rw [← i1]; exact hx); omega)
        have y3 : decide (0 < (i : Int)) = true := decide_eq_true (by omega)
        have y3n : 0 < i := by omega
        have y4 : IntKind.i64.wrap ((i : Int) - 1) = 0 := by rw [i1]; decide
        have hi1 : Unit → i = 1 := fun _ => i1
        have g2 : (0 : Int) < (l.length : Int) := by omega
        clear hr8 i1 i0
        rw [Nat.add_zero] at q1
        go_upto_region 10 with fail
        go_quiet (fail)
        go_wp2_with fail
        go_roundg (gk - 1)
        case measure => omega
        case rel => exact ⟨i + 1, by go_num, by omega, hh.upd ((Upd.refl [] _).drewN _)⟩
    · have z1 : decide ((i : Int) < (l.length : Int)) = false := decide_eq_false (by omega)
      have fb := hh.blk (b := w.heap.size) (o := Obj.cells #[.int .u8 op, .int .u8 D, .int .u8 S, .int .i16 O, .int .i32 M] 24 (0, 0)) (by simp); have k0 := cell_of fb 0; have k1 := cell_of fb 1; have k2 := cell_of fb 2; have k3 := cell_of fb 3; have k4 := cell_of fb 4; have lb := lt_of_heap fb; simp only [List.getElem?_toArray, List.getElem?_cons_zero, List.getElem?_cons_succ] at k0 k1 k2 k3 k4; clear fb
      go_wp2_with (first | (go_at_call 25; refine (wide_c h _).mono ?_; rw [hwd]; rintro e w5 ⟨rfl, hb⟩; replace hh := hh.upd (up_below (Upd.refl [] _) hb); clear hb; clear k0 k1 k2 k3 k4 lb; have fb := hh.blk (b := w.heap.size) (o := Obj.cells #[.int .u8 op, .int .u8 D, .int .u8 S, .int .i16 O, .int .i32 M] 24 (0, 0)) (by simp); have k0 := cell_of fb 0; have k1 := cell_of fb 1; have k2 := cell_of fb 2; have k3 := cell_of fb 3; have k4 := cell_of fb 4; have lb := lt_of_heap fb; simp only [List.getElem?_toArray, List.getElem?_cons_zero, List.getElem?_cons_succ] at k0 k1 k2 k3 k4; clear fb) | (go_at_call 14; refine (alive_c _).mono ?_; rintro e w6 ⟨rfl, hb⟩; replace hh := hh.upd (up_below (Upd.refl [] _) hb); clear hb))
      go_ret
      exact ⟨rfl, hh.u⟩

set_option maxHeartbeats 4000000 in
set_option maxRecDepth 100000 in
include h in
theorem sound_4_1_f (hk : kindF op D S O M = 4) (l : List Int) (hl : readsF op D S O M = l) (hlen : l.length ≤ 2) (hl1 : ∀ (i : Nat) (x : Int), l[i]? = some x → x < 11) (hl2 : ∀ (x y : Int), l[0]? = some x → l[1]? = some y → x < y)
    (hw : writesF op D S O M = (0, false)) (hn : sizeF op D S O M = 1) (hwd : wideF op D S O M = false) (hd : D < 11) (hs : S < 11) :
    Calls Try.prog 6 #[.agg #[.int .u8 op, .int .u8 D, .int .u8 S, .int .i16 O, .int .i32 M]] w fun e w' => e = .returned (.bool true) ∧ Upd [] w w' := by
  have y5 : decide (D < 11) = true := decide_eq_true hd
  have y6 : decide (S < 11) = true := decide_eq_true hs
  have hh := (SepK.start w).alloc (Obj.cells #[.int .u8 op, .int .u8 D, .int .u8 S, .int .i16 O, .int .i32 M] 24)
  go_enter Try.func6, Try.ntmps6
  go_wp2_with fail
  refine (kind_c h _).mono ?_
  rw [hk]
  rintro e w1 ⟨rfl, hb⟩
  replace hh := hh.upd (up_below (Upd.refl [] _) hb)
  clear hb
  have fb := hh.blk (b := w.heap.size) (o := Obj.cells #[.int .u8 op, .int .u8 D, .int .u8 S, .int .i16 O, .int .i32 M] 24 (0, 0)) (by simp); have k0 := cell_of fb 0; have k1 := cell_of fb 1; have k2 := cell_of fb 2; have k3 := cell_of fb 3; have k4 := cell_of fb 4; have lb := lt_of_heap fb; simp only [List.getElem?_toArray, List.getElem?_cons_zero, List.getElem?_cons_succ] at k0 k1 k2 k3 k4; clear fb
  go_wp2_with fail
  refine (reads_c h _).mono ?_
  rw [hl]
  rintro e w2 ⟨v, rfl, hR, hb⟩
  replace hh := hh.more (up_below (Upd.refl [] _) hb) (Kd_row hR) (fun _ hb => hb)
  clear hb hR
  obtain ⟨A, c, rfl, -⟩ := hh.row
  rw [List.length_map] at hh
  clear k0 k1 k2 k3 k4 lb
  have fb := hh.blk (b := w.heap.size) (o := Obj.cells #[.int .u8 op, .int .u8 D, .int .u8 S, .int .i16 O, .int .i32 M] 24 (0, 0)) (by simp); have k0 := cell_of fb 0; have k1 := cell_of fb 1; have k2 := cell_of fb 2; have k3 := cell_of fb 3; have k4 := cell_of fb 4; have lb := lt_of_heap fb; simp only [List.getElem?_toArray, List.getElem?_cons_zero, List.getElem?_cons_succ] at k0 k1 k2 k3 k4; clear fb
  go_wp2_with fail
  refine (writes_c h _).mono ?_
  rw [hw]
  rintro e w3 ⟨rfl, hb⟩
  replace hh := hh.upd (up_below (Upd.refl [] _) hb)
  clear hb
  clear k0 k1 k2 k3 k4 lb
  have fb := hh.blk (b := w.heap.size) (o := Obj.cells #[.int .u8 op, .int .u8 D, .int .u8 S, .int .i16 O, .int .i32 M] 24 (0, 0)) (by simp); have k0 := cell_of fb 0; have k1 := cell_of fb 1; have k2 := cell_of fb 2; have k3 := cell_of fb 3; have k4 := cell_of fb 4; have lb := lt_of_heap fb; simp only [List.getElem?_toArray, List.getElem?_cons_zero, List.getElem?_cons_succ] at k0 k1 k2 k3 k4; clear fb
  go_wp2_with fail
  refine (size_c h _).mono ?_
  rw [hn]
  rintro e w4 ⟨rfl, hb⟩
  replace hh := hh.upd (up_below (Upd.refl [] _) hb)
  clear hb
  clear k0 k1 k2 k3 k4 lb
  have fb := hh.blk (b := w.heap.size) (o := Obj.cells #[.int .u8 op, .int .u8 D, .int .u8 S, .int .i16 O, .int .i32 M] 24 (0, 0)) (by simp); have k0 := cell_of fb 0; have k1 := cell_of fb 1; have k2 := cell_of fb 2; have k3 := cell_of fb 3; have k4 := cell_of fb 4; have lb := lt_of_heap fb; simp only [List.getElem?_toArray, List.getElem?_cons_zero, List.getElem?_cons_succ] at k0 k1 k2 k3 k4; clear fb
  go_wp2_with fail
  go_loopg [8] l.length (fun kq v8 w' => ∃ i : Nat, v8 = .int .i64 (i : Int) ∧ kq + i = l.length ∧ SepK w w' [(w.heap.size, Obj.cells #[.int .u8 op, .int .u8 D, .int .u8 S, .int .i16 O, .int .i32 M] 24 (0, 0))] (star (rowR 5 1 (.slice A l.length c) (l.map enc8)) emp))
  case atStart => exact ⟨0, rfl, rfl, hh⟩
  case round =>
    clear hh
    clear k0 k1 k2 k3 k4 lb
    obtain ⟨i, rfl, hk2, hh⟩ := hrel
    by_cases hi : i < l.length
    · have z1 : decide ((i : Int) < (l.length : Int)) = true := decide_eq_true (by omega)
      obtain ⟨x, hx⟩ : ∃ x, l[i]? = some x := ⟨l[i], List.getElem?_eq_getElem hi⟩
      have y1 : decide (11 ≤ x) = false := decide_eq_false (by have := hl1 i x hx; omega)
      obtain ⟨A8, c8, e8, hr8⟩ := hh.row
      rw [List.length_map] at e8
      cases e8
      obtain ⟨b, off, rfl, q0⟩ := row8_cell hr8 hx
      have g0 : (0 : Int) ≤ (i : Int) := by omega
      have g1 : (i : Int) < (l.length : Int) := by omega
      by_cases i0 : i = 0
      · subst i0
        clear hr8
        rw [Nat.add_zero] at q0
        go_upto_region 10 with fail
        go_quiet (fail)
        go_wp2_with fail
        go_roundg (gk - 1)
        case measure => omega
        case rel => exact ⟨1, by go_num, by omega, hh.upd ((Upd.refl [] _).drewN _)⟩
      · have i1 : i = 1 := by omega
        obtain ⟨y, hy⟩ : ∃ y, l[0]? = some y := ⟨l[0], List.getElem?_eq_getElem (by omega)⟩
        obtain ⟨b', off', e', q1⟩ := row8_cell hr8 hy
        cases e'
        have y2 : decide (x ≤ y) = false := decide_eq_false (by have := hl2 y x hy (by rw [← i1]; exact hx); omega)
        have y3 : decide (0 < (i : Int)) = true := decide_eq_true (by omega)
        have y3n : 0 < i := by omega
        have y4 : IntKind.i64.wrap ((i : Int) - 1) = 0 := by rw [i1]; decide
        have hi1 : Unit → i = 1 := fun _ => i1
        have g2 : (0 : Int) < (l.length : Int) := by omega
        clear hr8 i1 i0
        rw [Nat.add_zero] at q1
        go_upto_region 10 with fail
        go_quiet (fail)
        go_wp2_with fail
        go_roundg (gk - 1)
        case measure => omega
        case rel => exact ⟨i + 1, by go_num, by omega, hh.upd ((Upd.refl [] _).drewN _)⟩
    · have z1 : decide ((i : Int) < (l.length : Int)) = false := decide_eq_false (by omega)
      have fb := hh.blk (b := w.heap.size) (o := Obj.cells #[.int .u8 op, .int .u8 D, .int .u8 S, .int .i16 O, .int .i32 M] 24 (0, 0)) (by simp); have k0 := cell_of fb 0; have k1 := cell_of fb 1; have k2 := cell_of fb 2; have k3 := cell_of fb 3; have k4 := cell_of fb 4; have lb := lt_of_heap fb; simp only [List.getElem?_toArray, List.getElem?_cons_zero, List.getElem?_cons_succ] at k0 k1 k2 k3 k4; clear fb
      go_wp2_with (first | (go_at_call 25; refine (wide_c h _).mono ?_; rw [hwd]; rintro e w5 ⟨rfl, hb⟩; replace hh := hh.upd (up_below (Upd.refl [] _) hb); clear hb; clear k0 k1 k2 k3 k4 lb; have fb := hh.blk (b := w.heap.size) (o := Obj.cells #[.int .u8 op, .int .u8 D, .int .u8 S, .int .i16 O, .int .i32 M] 24 (0, 0)) (by simp); have k0 := cell_of fb 0; have k1 := cell_of fb 1; have k2 := cell_of fb 2; have k3 := cell_of fb 3; have k4 := cell_of fb 4; have lb := lt_of_heap fb; simp only [List.getElem?_toArray, List.getElem?_cons_zero, List.getElem?_cons_succ] at k0 k1 k2 k3 k4; clear fb) | (go_at_call 14; refine (alive_c _).mono ?_; rintro e w6 ⟨rfl, hb⟩; replace hh := hh.upd (up_below (Upd.refl [] _) hb); clear hb))
      go_ret
      exact ⟨rfl, hh.u⟩

set_option maxHeartbeats 4000000 in
set_option maxRecDepth 100000 in
include h in
theorem sound_4_2_f (hk : kindF op D S O M = 4) (l : List Int) (hl : readsF op D S O M = l) (hlen : l.length ≤ 2) (hl1 : ∀ (i : Nat) (x : Int), l[i]? = some x → x < 11) (hl2 : ∀ (x y : Int), l[0]? = some x → l[1]? = some y → x < y)
    (hw : writesF op D S O M = (0, false)) (hn : sizeF op D S O M = 2) (hwd : wideF op D S O M = false) (hd : D < 11) (hs : S < 11) :
    Calls Try.prog 6 #[.agg #[.int .u8 op, .int .u8 D, .int .u8 S, .int .i16 O, .int .i32 M]] w fun e w' => e = .returned (.bool true) ∧ Upd [] w w' := by
  have y5 : decide (D < 11) = true := decide_eq_true hd
  have y6 : decide (S < 11) = true := decide_eq_true hs
  have hh := (SepK.start w).alloc (Obj.cells #[.int .u8 op, .int .u8 D, .int .u8 S, .int .i16 O, .int .i32 M] 24)
  go_enter Try.func6, Try.ntmps6
  go_wp2_with fail
  refine (kind_c h _).mono ?_
  rw [hk]
  rintro e w1 ⟨rfl, hb⟩
  replace hh := hh.upd (up_below (Upd.refl [] _) hb)
  clear hb
  have fb := hh.blk (b := w.heap.size) (o := Obj.cells #[.int .u8 op, .int .u8 D, .int .u8 S, .int .i16 O, .int .i32 M] 24 (0, 0)) (by simp); have k0 := cell_of fb 0; have k1 := cell_of fb 1; have k2 := cell_of fb 2; have k3 := cell_of fb 3; have k4 := cell_of fb 4; have lb := lt_of_heap fb; simp only [List.getElem?_toArray, List.getElem?_cons_zero, List.getElem?_cons_succ] at k0 k1 k2 k3 k4; clear fb
  go_wp2_with fail
  refine (reads_c h _).mono ?_
  rw [hl]
  rintro e w2 ⟨v, rfl, hR, hb⟩
  replace hh := hh.more (up_below (Upd.refl [] _) hb) (Kd_row hR) (fun _ hb => hb)
  clear hb hR
  obtain ⟨A, c, rfl, -⟩ := hh.row
  rw [List.length_map] at hh
  clear k0 k1 k2 k3 k4 lb
  have fb := hh.blk (b := w.heap.size) (o := Obj.cells #[.int .u8 op, .int .u8 D, .int .u8 S, .int .i16 O, .int .i32 M] 24 (0, 0)) (by simp); have k0 := cell_of fb 0; have k1 := cell_of fb 1; have k2 := cell_of fb 2; have k3 := cell_of fb 3; have k4 := cell_of fb 4; have lb := lt_of_heap fb; simp only [List.getElem?_toArray, List.getElem?_cons_zero, List.getElem?_cons_succ] at k0 k1 k2 k3 k4; clear fb
  go_wp2_with fail
  refine (writes_c h _).mono ?_
  rw [hw]
  rintro e w3 ⟨rfl, hb⟩
  replace hh := hh.upd (up_below (Upd.refl [] _) hb)
  clear hb
  clear k0 k1 k2 k3 k4 lb
  have fb := hh.blk (b := w.heap.size) (o := Obj.cells #[.int .u8 op, .int .u8 D, .int .u8 S, .int .i16 O, .int .i32 M] 24 (0, 0)) (by simp); have k0 := cell_of fb 0; have k1 := cell_of fb 1; have k2 := cell_of fb 2; have k3 := cell_of fb 3; have k4 := cell_of fb 4; have lb := lt_of_heap fb; simp only [List.getElem?_toArray, List.getElem?_cons_zero, List.getElem?_cons_succ] at k0 k1 k2 k3 k4; clear fb
  go_wp2_with fail
  refine (size_c h _).mono ?_
  rw [hn]
  rintro e w4 ⟨rfl, hb⟩
  replace hh := hh.upd (up_below (Upd.refl [] _) hb)
  clear hb
  clear k0 k1 k2 k3 k4 lb
  have fb := hh.blk (b := w.heap.size) (o := Obj.cells #[.int .u8 op, .int .u8 D, .int .u8 S, .int .i16 O, .int .i32 M] 24 (0, 0)) (by simp); have k0 := cell_of fb 0; have k1 := cell_of fb 1; have k2 := cell_of fb 2; have k3 := cell_of fb 3; have k4 := cell_of fb 4; have lb := lt_of_heap fb; simp only [List.getElem?_toArray, List.getElem?_cons_zero, List.getElem?_cons_succ] at k0 k1 k2 k3 k4; clear fb
  go_wp2_with fail
  go_loopg [8] l.length (fun kq v8 w' => ∃ i : Nat, v8 = .int .i64 (i : Int) ∧ kq + i = l.length ∧ SepK w w' [(w.heap.size, Obj.cells #[.int .u8 op, .int .u8 D, .int .u8 S, .int .i16 O, .int .i32 M] 24 (0, 0))] (star (rowR 5 1 (.slice A l.length c) (l.map enc8)) emp))
  case atStart => exact ⟨0, rfl, rfl, hh⟩
  case round =>
    clear hh
    clear k0 k1 k2 k3 k4 lb
    obtain ⟨i, rfl, hk2, hh⟩ := hrel
    by_cases hi : i < l.length
    · have z1 : decide ((i : Int) < (l.length : Int)) = true := decide_eq_true (by omega)
      obtain ⟨x, hx⟩ : ∃ x, l[i]? = some x := ⟨l[i], List.getElem?_eq_getElem hi⟩
      have y1 : decide (11 ≤ x) = false := decide_eq_false (by have := hl1 i x hx; omega)
      obtain ⟨A8, c8, e8, hr8⟩ := hh.row
      rw [List.length_map] at e8
      cases e8
      obtain ⟨b, off, rfl, q0⟩ := row8_cell hr8 hx
      have g0 : (0 : Int) ≤ (i : Int) := by omega
      have g1 : (i : Int) < (l.length : Int) := by omega
      by_cases i0 : i = 0
      · subst i0
        clear hr8
        rw [Nat.add_zero] at q0
        go_upto_region 10 with fail
        go_quiet (fail)
        go_wp2_with fail
        go_roundg (gk - 1)
        case measure => omega
        case rel => exact ⟨1, by go_num, by omega, hh.upd ((Upd.refl [] _).drewN _)⟩
      · have i1 : i = 1 := by omega
        obtain ⟨y, hy⟩ : ∃ y, l[0]? = some y := ⟨l[0], List.getElem?_eq_getElem (by omega)⟩
        obtain ⟨b', off', e', q1⟩ := row8_cell hr8 hy
        cases e'
        have y2 : decide (x ≤ y) = false := decide_eq_false (by have := hl2 y x hy (by rw [← i1]; exact hx); omega)
        have y3 : decide (0 < (i : Int)) = true := decide_eq_true (by omega)
        have y3n : 0 < i := by omega
        have y4 : IntKind.i64.wrap ((i : Int) - 1) = 0 := by rw [i1]; decide
        have hi1 : Unit → i = 1 := fun _ => i1
        have g2 : (0 : Int) < (l.length : Int) := by omega
        clear hr8 i1 i0
        rw [Nat.add_zero] at q1
        go_upto_region 10 with fail
        go_quiet (fail)
        go_wp2_with fail
        go_roundg (gk - 1)
        case measure => omega
        case rel => exact ⟨i + 1, by go_num, by omega, hh.upd ((Upd.refl [] _).drewN _)⟩
    · have z1 : decide ((i : Int) < (l.length : Int)) = false := decide_eq_false (by omega)
      have fb := hh.blk (b := w.heap.size) (o := Obj.cells #[.int .u8 op, .int .u8 D, .int .u8 S, .int .i16 O, .int .i32 M] 24 (0, 0)) (by simp); have k0 := cell_of fb 0; have k1 := cell_of fb 1; have k2 := cell_of fb 2; have k3 := cell_of fb 3; have k4 := cell_of fb 4; have lb := lt_of_heap fb; simp only [List.getElem?_toArray, List.getElem?_cons_zero, List.getElem?_cons_succ] at k0 k1 k2 k3 k4; clear fb
      go_wp2_with (first | (go_at_call 25; refine (wide_c h _).mono ?_; rw [hwd]; rintro e w5 ⟨rfl, hb⟩; replace hh := hh.upd (up_below (Upd.refl [] _) hb); clear hb; clear k0 k1 k2 k3 k4 lb; have fb := hh.blk (b := w.heap.size) (o := Obj.cells #[.int .u8 op, .int .u8 D, .int .u8 S, .int .i16 O, .int .i32 M] 24 (0, 0)) (by simp); have k0 := cell_of fb 0; have k1 := cell_of fb 1; have k2 := cell_of fb 2; have k3 := cell_of fb 3; have k4 := cell_of fb 4; have lb := lt_of_heap fb; simp only [List.getElem?_toArray, List.getElem?_cons_zero, List.getElem?_cons_succ] at k0 k1 k2 k3 k4; clear fb) | (go_at_call 14; refine (alive_c _).mono ?_; rintro e w6 ⟨rfl, hb⟩; replace hh := hh.upd (up_below (Upd.refl [] _) hb); clear hb))
      go_ret
      exact ⟨rfl, hh.u⟩

set_option maxHeartbeats 4000000 in
set_option maxRecDepth 100000 in
include h in
theorem sound_4_4_f (hk : kindF op D S O M = 4) (l : List Int) (hl : readsF op D S O M = l) (hlen : l.length ≤ 2) (hl1 : ∀ (i : Nat) (x : Int), l[i]? = some x → x < 11) (hl2 : ∀ (x y : Int), l[0]? = some x → l[1]? = some y → x < y)
    (hw : writesF op D S O M = (0, false)) (hn : sizeF op D S O M = 4) (hwd : wideF op D S O M = false) (hd : D < 11) (hs : S < 11) :
    Calls Try.prog 6 #[.agg #[.int .u8 op, .int .u8 D, .int .u8 S, .int .i16 O, .int .i32 M]] w fun e w' => e = .returned (.bool true) ∧ Upd [] w w' := by
  have y5 : decide (D < 11) = true := decide_eq_true hd
  have y6 : decide (S < 11) = true := decide_eq_true hs
  have hh := (SepK.start w).alloc (Obj.cells #[.int .u8 op, .int .u8 D, .int .u8 S, .int .i16 O, .int .i32 M] 24)
  go_enter Try.func6, Try.ntmps6
  go_wp2_with fail
  refine (kind_c h _).mono ?_
  rw [hk]
  rintro e w1 ⟨rfl, hb⟩
  replace hh := hh.upd (up_below (Upd.refl [] _) hb)
  clear hb
  have fb := hh.blk (b := w.heap.size) (o := Obj.cells #[.int .u8 op, .int .u8 D, .int .u8 S, .int .i16 O, .int .i32 M] 24 (0, 0)) (by simp); have k0 := cell_of fb 0; have k1 := cell_of fb 1; have k2 := cell_of fb 2; have k3 := cell_of fb 3; have k4 := cell_of fb 4; have lb := lt_of_heap fb; simp only [List.getElem?_toArray, List.getElem?_cons_zero, List.getElem?_cons_succ] at k0 k1 k2 k3 k4; clear fb
  go_wp2_with fail
  refine (reads_c h _).mono ?_
  rw [hl]
  rintro e w2 ⟨v, rfl, hR, hb⟩
  replace hh := hh.more (up_below (Upd.refl [] _) hb) (Kd_row hR) (fun _ hb => hb)
  clear hb hR
  obtain ⟨A, c, rfl, -⟩ := hh.row
  rw [List.length_map] at hh
  clear k0 k1 k2 k3 k4 lb
  have fb := hh.blk (b := w.heap.size) (o := Obj.cells #[.int .u8 op, .int .u8 D, .int .u8 S, .int .i16 O, .int .i32 M] 24 (0, 0)) (by simp); have k0 := cell_of fb 0; have k1 := cell_of fb 1; have k2 := cell_of fb 2; have k3 := cell_of fb 3; have k4 := cell_of fb 4; have lb := lt_of_heap fb; simp only [List.getElem?_toArray, List.getElem?_cons_zero, List.getElem?_cons_succ] at k0 k1 k2 k3 k4; clear fb
  go_wp2_with fail
  refine (writes_c h _).mono ?_
  rw [hw]
  rintro e w3 ⟨rfl, hb⟩
  replace hh := hh.upd (up_below (Upd.refl [] _) hb)
  clear hb
  clear k0 k1 k2 k3 k4 lb
  have fb := hh.blk (b := w.heap.size) (o := Obj.cells #[.int .u8 op, .int .u8 D, .int .u8 S, .int .i16 O, .int .i32 M] 24 (0, 0)) (by simp); have k0 := cell_of fb 0; have k1 := cell_of fb 1; have k2 := cell_of fb 2; have k3 := cell_of fb 3; have k4 := cell_of fb 4; have lb := lt_of_heap fb; simp only [List.getElem?_toArray, List.getElem?_cons_zero, List.getElem?_cons_succ] at k0 k1 k2 k3 k4; clear fb
  go_wp2_with fail
  refine (size_c h _).mono ?_
  rw [hn]
  rintro e w4 ⟨rfl, hb⟩
  replace hh := hh.upd (up_below (Upd.refl [] _) hb)
  clear hb
  clear k0 k1 k2 k3 k4 lb
  have fb := hh.blk (b := w.heap.size) (o := Obj.cells #[.int .u8 op, .int .u8 D, .int .u8 S, .int .i16 O, .int .i32 M] 24 (0, 0)) (by simp); have k0 := cell_of fb 0; have k1 := cell_of fb 1; have k2 := cell_of fb 2; have k3 := cell_of fb 3; have k4 := cell_of fb 4; have lb := lt_of_heap fb; simp only [List.getElem?_toArray, List.getElem?_cons_zero, List.getElem?_cons_succ] at k0 k1 k2 k3 k4; clear fb
  go_wp2_with fail
  go_loopg [8] l.length (fun kq v8 w' => ∃ i : Nat, v8 = .int .i64 (i : Int) ∧ kq + i = l.length ∧ SepK w w' [(w.heap.size, Obj.cells #[.int .u8 op, .int .u8 D, .int .u8 S, .int .i16 O, .int .i32 M] 24 (0, 0))] (star (rowR 5 1 (.slice A l.length c) (l.map enc8)) emp))
  case atStart => exact ⟨0, rfl, rfl, hh⟩
  case round =>
    clear hh
    clear k0 k1 k2 k3 k4 lb
    obtain ⟨i, rfl, hk2, hh⟩ := hrel
    by_cases hi : i < l.length
    · have z1 : decide ((i : Int) < (l.length : Int)) = true := decide_eq_true (by omega)
      obtain ⟨x, hx⟩ : ∃ x, l[i]? = some x := ⟨l[i], List.getElem?_eq_getElem hi⟩
      have y1 : decide (11 ≤ x) = false := decide_eq_false (by have := hl1 i x hx; omega)
      obtain ⟨A8, c8, e8, hr8⟩ := hh.row
      rw [List.length_map] at e8
      cases e8
      obtain ⟨b, off, rfl, q0⟩ := row8_cell hr8 hx
      have g0 : (0 : Int) ≤ (i : Int) := by omega
      have g1 : (i : Int) < (l.length : Int) := by omega
      by_cases i0 : i = 0
      · subst i0
        clear hr8
        rw [Nat.add_zero] at q0
        go_upto_region 10 with fail
        go_quiet (fail)
        go_wp2_with fail
        go_roundg (gk - 1)
        case measure => omega
        case rel => exact ⟨1, by go_num, by omega, hh.upd ((Upd.refl [] _).drewN _)⟩
      · have i1 : i = 1 := by omega
        obtain ⟨y, hy⟩ : ∃ y, l[0]? = some y := ⟨l[0], List.getElem?_eq_getElem (by omega)⟩
        obtain ⟨b', off', e', q1⟩ := row8_cell hr8 hy
        cases e'
        have y2 : decide (x ≤ y) = false := decide_eq_false (by have := hl2 y x hy (by rw [← i1]; exact hx); omega)
        have y3 : decide (0 < (i : Int)) = true := decide_eq_true (by omega)
        have y3n : 0 < i := by omega
        have y4 : IntKind.i64.wrap ((i : Int) - 1) = 0 := by rw [i1]; decide
        have hi1 : Unit → i = 1 := fun _ => i1
        have g2 : (0 : Int) < (l.length : Int) := by omega
        clear hr8 i1 i0
        rw [Nat.add_zero] at q1
        go_upto_region 10 with fail
        go_quiet (fail)
        go_wp2_with fail
        go_roundg (gk - 1)
        case measure => omega
        case rel => exact ⟨i + 1, by go_num, by omega, hh.upd ((Upd.refl [] _).drewN _)⟩
    · have z1 : decide ((i : Int) < (l.length : Int)) = false := decide_eq_false (by omega)
      have fb := hh.blk (b := w.heap.size) (o := Obj.cells #[.int .u8 op, .int .u8 D, .int .u8 S, .int .i16 O, .int .i32 M] 24 (0, 0)) (by simp); have k0 := cell_of fb 0; have k1 := cell_of fb 1; have k2 := cell_of fb 2; have k3 := cell_of fb 3; have k4 := cell_of fb 4; have lb := lt_of_heap fb; simp only [List.getElem?_toArray, List.getElem?_cons_zero, List.getElem?_cons_succ] at k0 k1 k2 k3 k4; clear fb
      go_wp2_with (first | (go_at_call 25; refine (wide_c h _).mono ?_; rw [hwd]; rintro e w5 ⟨rfl, hb⟩; replace hh := hh.upd (up_below (Upd.refl [] _) hb); clear hb; clear k0 k1 k2 k3 k4 lb; have fb := hh.blk (b := w.heap.size) (o := Obj.cells #[.int .u8 op, .int .u8 D, .int .u8 S, .int .i16 O, .int .i32 M] 24 (0, 0)) (by simp); have k0 := cell_of fb 0; have k1 := cell_of fb 1; have k2 := cell_of fb 2; have k3 := cell_of fb 3; have k4 := cell_of fb 4; have lb := lt_of_heap fb; simp only [List.getElem?_toArray, List.getElem?_cons_zero, List.getElem?_cons_succ] at k0 k1 k2 k3 k4; clear fb) | (go_at_call 14; refine (alive_c _).mono ?_; rintro e w6 ⟨rfl, hb⟩; replace hh := hh.upd (up_below (Upd.refl [] _) hb); clear hb))
      go_ret
      exact ⟨rfl, hh.u⟩

set_option maxHeartbeats 4000000 in
set_option maxRecDepth 100000 in
include h in
theorem sound_4_8_f (hk : kindF op D S O M = 4) (l : List Int) (hl : readsF op D S O M = l) (hlen : l.length ≤ 2) (hl1 : ∀ (i : Nat) (x : Int), l[i]? = some x → x < 11) (hl2 : ∀ (x y : Int), l[0]? = some x → l[1]? = some y → x < y)
    (hw : writesF op D S O M = (0, false)) (hn : sizeF op D S O M = 8) (hwd : wideF op D S O M = false) (hd : D < 11) (hs : S < 11) :
    Calls Try.prog 6 #[.agg #[.int .u8 op, .int .u8 D, .int .u8 S, .int .i16 O, .int .i32 M]] w fun e w' => e = .returned (.bool true) ∧ Upd [] w w' := by
  have y5 : decide (D < 11) = true := decide_eq_true hd
  have y6 : decide (S < 11) = true := decide_eq_true hs
  have hh := (SepK.start w).alloc (Obj.cells #[.int .u8 op, .int .u8 D, .int .u8 S, .int .i16 O, .int .i32 M] 24)
  go_enter Try.func6, Try.ntmps6
  go_wp2_with fail
  refine (kind_c h _).mono ?_
  rw [hk]
  rintro e w1 ⟨rfl, hb⟩
  replace hh := hh.upd (up_below (Upd.refl [] _) hb)
  clear hb
  have fb := hh.blk (b := w.heap.size) (o := Obj.cells #[.int .u8 op, .int .u8 D, .int .u8 S, .int .i16 O, .int .i32 M] 24 (0, 0)) (by simp); have k0 := cell_of fb 0; have k1 := cell_of fb 1; have k2 := cell_of fb 2; have k3 := cell_of fb 3; have k4 := cell_of fb 4; have lb := lt_of_heap fb; simp only [List.getElem?_toArray, List.getElem?_cons_zero, List.getElem?_cons_succ] at k0 k1 k2 k3 k4; clear fb
  go_wp2_with fail
  refine (reads_c h _).mono ?_
  rw [hl]
  rintro e w2 ⟨v, rfl, hR, hb⟩
  replace hh := hh.more (up_below (Upd.refl [] _) hb) (Kd_row hR) (fun _ hb => hb)
  clear hb hR
  obtain ⟨A, c, rfl, -⟩ := hh.row
  rw [List.length_map] at hh
  clear k0 k1 k2 k3 k4 lb
  have fb := hh.blk (b := w.heap.size) (o := Obj.cells #[.int .u8 op, .int .u8 D, .int .u8 S, .int .i16 O, .int .i32 M] 24 (0, 0)) (by simp); have k0 := cell_of fb 0; have k1 := cell_of fb 1; have k2 := cell_of fb 2; have k3 := cell_of fb 3; have k4 := cell_of fb 4; have lb := lt_of_heap fb; simp only [List.getElem?_toArray, List.getElem?_cons_zero, List.getElem?_cons_succ] at k0 k1 k2 k3 k4; clear fb
  go_wp2_with fail
  refine (writes_c h _).mono ?_
  rw [hw]
  rintro e w3 ⟨rfl, hb⟩
  replace hh := hh.upd (up_below (Upd.refl [] _) hb)
  clear hb
  clear k0 k1 k2 k3 k4 lb
  have fb := hh.blk (b := w.heap.size) (o := Obj.cells #[.int .u8 op, .int .u8 D, .int .u8 S, .int .i16 O, .int .i32 M] 24 (0, 0)) (by simp); have k0 := cell_of fb 0; have k1 := cell_of fb 1; have k2 := cell_of fb 2; have k3 := cell_of fb 3; have k4 := cell_of fb 4; have lb := lt_of_heap fb; simp only [List.getElem?_toArray, List.getElem?_cons_zero, List.getElem?_cons_succ] at k0 k1 k2 k3 k4; clear fb
  go_wp2_with fail
  refine (size_c h _).mono ?_
  rw [hn]
  rintro e w4 ⟨rfl, hb⟩
  replace hh := hh.upd (up_below (Upd.refl [] _) hb)
  clear hb
  clear k0 k1 k2 k3 k4 lb
  have fb := hh.blk (b := w.heap.size) (o := Obj.cells #[.int .u8 op, .int .u8 D, .int .u8 S, .int .i16 O, .int .i32 M] 24 (0, 0)) (by simp); have k0 := cell_of fb 0; have k1 := cell_of fb 1; have k2 := cell_of fb 2; have k3 := cell_of fb 3; have k4 := cell_of fb 4; have lb := lt_of_heap fb; simp only [List.getElem?_toArray, List.getElem?_cons_zero, List.getElem?_cons_succ] at k0 k1 k2 k3 k4; clear fb
  go_wp2_with fail
  go_loopg [8] l.length (fun kq v8 w' => ∃ i : Nat, v8 = .int .i64 (i : Int) ∧ kq + i = l.length ∧ SepK w w' [(w.heap.size, Obj.cells #[.int .u8 op, .int .u8 D, .int .u8 S, .int .i16 O, .int .i32 M] 24 (0, 0))] (star (rowR 5 1 (.slice A l.length c) (l.map enc8)) emp))
  case atStart => exact ⟨0, rfl, rfl, hh⟩
  case round =>
    clear hh
    clear k0 k1 k2 k3 k4 lb
    obtain ⟨i, rfl, hk2, hh⟩ := hrel
    by_cases hi : i < l.length
    · have z1 : decide ((i : Int) < (l.length : Int)) = true := decide_eq_true (by omega)
      obtain ⟨x, hx⟩ : ∃ x, l[i]? = some x := ⟨l[i], List.getElem?_eq_getElem hi⟩
      have y1 : decide (11 ≤ x) = false := decide_eq_false (by have := hl1 i x hx; omega)
      obtain ⟨A8, c8, e8, hr8⟩ := hh.row
      rw [List.length_map] at e8
      cases e8
      obtain ⟨b, off, rfl, q0⟩ := row8_cell hr8 hx
      have g0 : (0 : Int) ≤ (i : Int) := by omega
      have g1 : (i : Int) < (l.length : Int) := by omega
      by_cases i0 : i = 0
      · subst i0
        clear hr8
        rw [Nat.add_zero] at q0
        go_upto_region 10 with fail
        go_quiet (fail)
        go_wp2_with fail
        go_roundg (gk - 1)
        case measure => omega
        case rel => exact ⟨1, by go_num, by omega, hh.upd ((Upd.refl [] _).drewN _)⟩
      · have i1 : i = 1 := by omega
        obtain ⟨y, hy⟩ : ∃ y, l[0]? = some y := ⟨l[0], List.getElem?_eq_getElem (by omega)⟩
        obtain ⟨b', off', e', q1⟩ := row8_cell hr8 hy
        cases e'
        have y2 : decide (x ≤ y) = false := decide_eq_false (by have := hl2 y x hy (by rw [← i1]; exact hx); omega)
        have y3 : decide (0 < (i : Int)) = true := decide_eq_true (by omega)
        have y3n : 0 < i := by omega
        have y4 : IntKind.i64.wrap ((i : Int) - 1) = 0 := by rw [i1]; decide
        have hi1 : Unit → i = 1 := fun _ => i1
        have g2 : (0 : Int) < (l.length : Int) := by omega
        clear hr8 i1 i0
        rw [Nat.add_zero] at q1
        go_upto_region 10 with fail
        go_quiet (fail)
        go_wp2_with fail
        go_roundg (gk - 1)
        case measure => omega
        case rel => exact ⟨i + 1, by go_num, by omega, hh.upd ((Upd.refl [] _).drewN _)⟩
    · have z1 : decide ((i : Int) < (l.length : Int)) = false := decide_eq_false (by omega)
      have fb := hh.blk (b := w.heap.size) (o := Obj.cells #[.int .u8 op, .int .u8 D, .int .u8 S, .int .i16 O, .int .i32 M] 24 (0, 0)) (by simp); have k0 := cell_of fb 0; have k1 := cell_of fb 1; have k2 := cell_of fb 2; have k3 := cell_of fb 3; have k4 := cell_of fb 4; have lb := lt_of_heap fb; simp only [List.getElem?_toArray, List.getElem?_cons_zero, List.getElem?_cons_succ] at k0 k1 k2 k3 k4; clear fb
      go_wp2_with (first | (go_at_call 25; refine (wide_c h _).mono ?_; rw [hwd]; rintro e w5 ⟨rfl, hb⟩; replace hh := hh.upd (up_below (Upd.refl [] _) hb); clear hb; clear k0 k1 k2 k3 k4 lb; have fb := hh.blk (b := w.heap.size) (o := Obj.cells #[.int .u8 op, .int .u8 D, .int .u8 S, .int .i16 O, .int .i32 M] 24 (0, 0)) (by simp); have k0 := cell_of fb 0; have k1 := cell_of fb 1; have k2 := cell_of fb 2; have k3 := cell_of fb 3; have k4 := cell_of fb 4; have lb := lt_of_heap fb; simp only [List.getElem?_toArray, List.getElem?_cons_zero, List.getElem?_cons_succ] at k0 k1 k2 k3 k4; clear fb) | (go_at_call 14; refine (alive_c _).mono ?_; rintro e w6 ⟨rfl, hb⟩; replace hh := hh.upd (up_below (Upd.refl [] _) hb); clear hb))
      go_ret
      exact ⟨rfl, hh.u⟩

set_option maxHeartbeats 4000000 in
set_option maxRecDepth 100000 in
include h in
theorem sound_1_0_f (hk : kindF op D S O M = 1) (l : List Int) (hl : readsF op D S O M = l) (hlen : l.length ≤ 2) (hl1 : ∀ (i : Nat) (x : Int), l[i]? = some x → x < 11) (hl2 : ∀ (x y : Int), l[0]? = some x → l[1]? = some y → x < y)
    (hw : writesF op D S O M = (D, true)) (hn : sizeF op D S O M = 0) (hwd : wideF op D S O M = false) (hD : D < 10) (hd : D < 11) (hs : S < 11) :
    Calls Try.prog 6 #[.agg #[.int .u8 op, .int .u8 D, .int .u8 S, .int .i16 O, .int .i32 M]] w fun e w' => e = .returned (.bool true) ∧ Upd [] w w' := by
  have yD : decide (10 ≤ D) = false := decide_eq_false (by omega)
  have y5 : decide (D < 11) = true := decide_eq_true hd
  have y6 : decide (S < 11) = true := decide_eq_true hs
  have hh := (SepK.start w).alloc (Obj.cells #[.int .u8 op, .int .u8 D, .int .u8 S, .int .i16 O, .int .i32 M] 24)
  go_enter Try.func6, Try.ntmps6
  go_wp2_with fail
  refine (kind_c h _).mono ?_
  rw [hk]
  rintro e w1 ⟨rfl, hb⟩
  replace hh := hh.upd (up_below (Upd.refl [] _) hb)
  clear hb
  have fb := hh.blk (b := w.heap.size) (o := Obj.cells #[.int .u8 op, .int .u8 D, .int .u8 S, .int .i16 O, .int .i32 M] 24 (0, 0)) (by simp); have k0 := cell_of fb 0; have k1 := cell_of fb 1; have k2 := cell_of fb 2; have k3 := cell_of fb 3; have k4 := cell_of fb 4; have lb := lt_of_heap fb; simp only [List.getElem?_toArray, List.getElem?_cons_zero, List.getElem?_cons_succ] at k0 k1 k2 k3 k4; clear fb
  go_wp2_with fail
  refine (reads_c h _).mono ?_
  rw [hl]
  rintro e w2 ⟨v, rfl, hR, hb⟩
  replace hh := hh.more (up_below (Upd.refl [] _) hb) (Kd_row hR) (fun _ hb => hb)
  clear hb hR
  obtain ⟨A, c, rfl, -⟩ := hh.row
  rw [List.length_map] at hh
  clear k0 k1 k2 k3 k4 lb
  have fb := hh.blk (b := w.heap.size) (o := Obj.cells #[.int .u8 op, .int .u8 D, .int .u8 S, .int .i16 O, .int .i32 M] 24 (0, 0)) (by simp); have k0 := cell_of fb 0; have k1 := cell_of fb 1; have k2 := cell_of fb 2; have k3 := cell_of fb 3; have k4 := cell_of fb 4; have lb := lt_of_heap fb; simp only [List.getElem?_toArray, List.getElem?_cons_zero, List.getElem?_cons_succ] at k0 k1 k2 k3 k4; clear fb
  go_wp2_with fail
  refine (writes_c h _).mono ?_
  rw [hw]
  rintro e w3 ⟨rfl, hb⟩
  replace hh := hh.upd (up_below (Upd.refl [] _) hb)
  clear hb
  clear k0 k1 k2 k3 k4 lb
  have fb := hh.blk (b := w.heap.size) (o := Obj.cells #[.int .u8 op, .int .u8 D, .int .u8 S, .int .i16 O, .int .i32 M] 24 (0, 0)) (by simp); have k0 := cell_of fb 0; have k1 := cell_of fb 1; have k2 := cell_of fb 2; have k3 := cell_of fb 3; have k4 := cell_of fb 4; have lb := lt_of_heap fb; simp only [List.getElem?_toArray, List.getElem?_cons_zero, List.getElem?_cons_succ] at k0 k1 k2 k3 k4; clear fb
  go_wp2_with fail
  refine (size_c h _).mono ?_
  rw [hn]
  rintro e w4 ⟨rfl, hb⟩
  replace hh := hh.upd (up_below (Upd.refl [] _) hb)
  clear hb
  clear k0 k1 k2 k3 k4 lb
  have fb := hh.blk (b := w.heap.size) (o := Obj.cells #[.int .u8 op, .int .u8 D, .int .u8 S, .int .i16 O, .int .i32 M] 24 (0, 0)) (by simp); have k0 := cell_of fb 0; have k1 := cell_of fb 1; have k2 := cell_of fb 2; have k3 := cell_of fb 3; have k4 := cell_of fb 4; have lb := lt_of_heap fb; simp only [List.getElem?_toArray, List.getElem?_cons_zero, List.getElem?_cons_succ] at k0 k1 k2 k3 k4; clear fb
  go_wp2_with fail
  go_loopg [8] l.length (fun kq v8 w' => ∃ i : Nat, v8 = .int .i64 (i : Int) ∧ kq + i = l.length ∧ SepK w w' [(w.heap.size, Obj.cells #[.int .u8 op, .int .u8 D, .int .u8 S, .int .i16 O, .int .i32 M] 24 (0, 0))] (star (rowR 5 1 (.slice A l.length c) (l.map enc8)) emp))
  case atStart => exact ⟨0, rfl, rfl, hh⟩
  case round =>
    clear hh
    clear k0 k1 k2 k3 k4 lb
    obtain ⟨i, rfl, hk2, hh⟩ := hrel
    by_cases hi : i < l.length
    · have z1 : decide ((i : Int) < (l.length : Int)) = true := decide_eq_true (by omega)
      obtain ⟨x, hx⟩ : ∃ x, l[i]? = some x := ⟨l[i], List.getElem?_eq_getElem hi⟩
      have y1 : decide (11 ≤ x) = false := decide_eq_false (by have := hl1 i x hx; omega)
      obtain ⟨A8, c8, e8, hr8⟩ := hh.row
      rw [List.length_map] at e8
      cases e8
      obtain ⟨b, off, rfl, q0⟩ := row8_cell hr8 hx
      have g0 : (0 : Int) ≤ (i : Int) := by omega
      have g1 : (i : Int) < (l.length : Int) := by omega
      by_cases i0 : i = 0
      · subst i0
        clear hr8
        rw [Nat.add_zero] at q0
        go_upto_region 10 with fail
        go_quiet (fail)
        go_wp2_with fail
        go_roundg (gk - 1)
        case measure => omega
        case rel => exact ⟨1, by go_num, by omega, hh.upd ((Upd.refl [] _).drewN _)⟩
      · have i1 : i = 1 := by omega
        obtain ⟨y, hy⟩ : ∃ y, l[0]? = some y := ⟨l[0], List.getElem?_eq_getElem (by omega)⟩
        obtain ⟨b', off', e', q1⟩ := row8_cell hr8 hy
        cases e'
        have y2 : decide (x ≤ y) = false := decide_eq_false (by have := hl2 y x hy (by rw [← i1]; exact hx); omega)
        have y3 : decide (0 < (i : Int)) = true := decide_eq_true (by omega)
        have y3n : 0 < i := by omega
        have y4 : IntKind.i64.wrap ((i : Int) - 1) = 0 := by rw [i1]; decide
        have hi1 : Unit → i = 1 := fun _ => i1
        have g2 : (0 : Int) < (l.length : Int) := by omega
        clear hr8 i1 i0
        rw [Nat.add_zero] at q1
        go_upto_region 10 with fail
        go_quiet (fail)
        go_wp2_with fail
        go_roundg (gk - 1)
        case measure => omega
        case rel => exact ⟨i + 1, by go_num, by omega, hh.upd ((Upd.refl [] _).drewN _)⟩
    · have z1 : decide ((i : Int) < (l.length : Int)) = false := decide_eq_false (by omega)
      have fb := hh.blk (b := w.heap.size) (o := Obj.cells #[.int .u8 op, .int .u8 D, .int .u8 S, .int .i16 O, .int .i32 M] 24 (0, 0)) (by simp); have k0 := cell_of fb 0; have k1 := cell_of fb 1; have k2 := cell_of fb 2; have k3 := cell_of fb 3; have k4 := cell_of fb 4; have lb := lt_of_heap fb; simp only [List.getElem?_toArray, List.getElem?_cons_zero, List.getElem?_cons_succ] at k0 k1 k2 k3 k4; clear fb
      go_wp2_with (first | (go_at_call 25; refine (wide_c h _).mono ?_; rw [hwd]; rintro e w5 ⟨rfl, hb⟩; replace hh := hh.upd (up_below (Upd.refl [] _) hb); clear hb; clear k0 k1 k2 k3 k4 lb; have fb := hh.blk (b := w.heap.size) (o := Obj.cells #[.int .u8 op, .int .u8 D, .int .u8 S, .int .i16 O, .int .i32 M] 24 (0, 0)) (by simp); have k0 := cell_of fb 0; have k1 := cell_of fb 1; have k2 := cell_of fb 2; have k3 := cell_of fb 3; have k4 := cell_of fb 4; have lb := lt_of_heap fb; simp only [List.getElem?_toArray, List.getElem?_cons_zero, List.getElem?_cons_succ] at k0 k1 k2 k3 k4; clear fb) | (go_at_call 14; refine (alive_c _).mono ?_; rintro e w6 ⟨rfl, hb⟩; replace hh := hh.upd (up_below (Upd.refl [] _) hb); clear hb))
      go_ret
      exact ⟨rfl, hh.u⟩

set_option maxHeartbeats 4000000 in
set_option maxRecDepth 100000 in
include h in
theorem sound_1_0_t (hk : kindF op D S O M = 1) (l : List Int) (hl : readsF op D S O M = l) (hlen : l.length ≤ 2) (hl1 : ∀ (i : Nat) (x : Int), l[i]? = some x → x < 11) (hl2 : ∀ (x y : Int), l[0]? = some x → l[1]? = some y → x < y)
    (hw : writesF op D S O M = (D, true)) (hn : sizeF op D S O M = 0) (hwd : wideF op D S O M = true) (hD : D < 10) (hd : D < 11) (hs : S < 11) :
    Calls Try.prog 6 #[.agg #[.int .u8 op, .int .u8 D, .int .u8 S, .int .i16 O, .int .i32 M]] w fun e w' => e = .returned (.bool true) ∧ Upd [] w w' := by
  have yD : decide (10 ≤ D) = false := decide_eq_false (by omega)
  have y5 : decide (D < 11) = true := decide_eq_true hd
  have y6 : decide (S < 11) = true := decide_eq_true hs
  have hh := (SepK.start w).alloc (Obj.cells #[.int .u8 op, .int .u8 D, .int .u8 S, .int .i16 O, .int .i32 M] 24)
  go_enter Try.func6, Try.ntmps6
  go_wp2_with fail
  refine (kind_c h _).mono ?_
  rw [hk]
  rintro e w1 ⟨rfl, hb⟩
  replace hh := hh.upd (up_below (Upd.refl [] _) hb)
  clear hb
  have fb := hh.blk (b := w.heap.size) (o := Obj.cells #[.int .u8 op, .int .u8 D, .int .u8 S, .int .i16 O, .int .i32 M] 24 (0, 0)) (by simp); have k0 := cell_of fb 0; have k1 := cell_of fb 1; have k2 := cell_of fb 2; have k3 := cell_of fb 3; have k4 := cell_of fb 4; have lb := lt_of_heap fb; simp only [List.getElem?_toArray, List.getElem?_cons_zero, List.getElem?_cons_succ] at k0 k1 k2 k3 k4; clear fb
  go_wp2_with fail
  refine (reads_c h _).mono ?_
  rw [hl]
  rintro e w2 ⟨v, rfl, hR, hb⟩
  replace hh := hh.more (up_below (Upd.refl [] _) hb) (Kd_row hR) (fun _ hb => hb)
  clear hb hR
  obtain ⟨A, c, rfl, -⟩ := hh.row
  rw [List.length_map] at hh
  clear k0 k1 k2 k3 k4 lb
  have fb := hh.blk (b := w.heap.size) (o := Obj.cells #[.int .u8 op, .int .u8 D, .int .u8 S, .int .i16 O, .int .i32 M] 24 (0, 0)) (by simp); have k0 := cell_of fb 0; have k1 := cell_of fb 1; have k2 := cell_of fb 2; have k3 := cell_of fb 3; have k4 := cell_of fb 4; have lb := lt_of_heap fb; simp only [List.getElem?_toArray, List.getElem?_cons_zero, List.getElem?_cons_succ] at k0 k1 k2 k3 k4; clear fb
  go_wp2_with fail
  refine (writes_c h _).mono ?_
  rw [hw]
  rintro e w3 ⟨rfl, hb⟩
  replace hh := hh.upd (up_below (Upd.refl [] _) hb)
  clear hb
  clear k0 k1 k2 k3 k4 lb
  have fb := hh.blk (b := w.heap.size) (o := Obj.cells #[.int .u8 op, .int .u8 D, .int .u8 S, .int .i16 O, .int .i32 M] 24 (0, 0)) (by simp); have k0 := cell_of fb 0; have k1 := cell_of fb 1; have k2 := cell_of fb 2; have k3 := cell_of fb 3; have k4 := cell_of fb 4; have lb := lt_of_heap fb; simp only [List.getElem?_toArray, List.getElem?_cons_zero, List.getElem?_cons_succ] at k0 k1 k2 k3 k4; clear fb
  go_wp2_with fail
  refine (size_c h _).mono ?_
  rw [hn]
  rintro e w4 ⟨rfl, hb⟩
  replace hh := hh.upd (up_below (Upd.refl [] _) hb)
  clear hb
  clear k0 k1 k2 k3 k4 lb
  have fb := hh.blk (b := w.heap.size) (o := Obj.cells #[.int .u8 op, .int .u8 D, .int .u8 S, .int .i16 O, .int .i32 M] 24 (0, 0)) (by simp); have k0 := cell_of fb 0; have k1 := cell_of fb 1; have k2 := cell_of fb 2; have k3 := cell_of fb 3; have k4 := cell_of fb 4; have lb := lt_of_heap fb; simp only [List.getElem?_toArray, List.getElem?_cons_zero, List.getElem?_cons_succ] at k0 k1 k2 k3 k4; clear fb
  go_wp2_with fail
  go_loopg [8] l.length (fun kq v8 w' => ∃ i : Nat, v8 = .int .i64 (i : Int) ∧ kq + i = l.length ∧ SepK w w' [(w.heap.size, Obj.cells #[.int .u8 op, .int .u8 D, .int .u8 S, .int .i16 O, .int .i32 M] 24 (0, 0))] (star (rowR 5 1 (.slice A l.length c) (l.map enc8)) emp))
  case atStart => exact ⟨0, rfl, rfl, hh⟩
  case round =>
    clear hh
    clear k0 k1 k2 k3 k4 lb
    obtain ⟨i, rfl, hk2, hh⟩ := hrel
    by_cases hi : i < l.length
    · have z1 : decide ((i : Int) < (l.length : Int)) = true := decide_eq_true (by omega)
      obtain ⟨x, hx⟩ : ∃ x, l[i]? = some x := ⟨l[i], List.getElem?_eq_getElem hi⟩
      have y1 : decide (11 ≤ x) = false := decide_eq_false (by have := hl1 i x hx; omega)
      obtain ⟨A8, c8, e8, hr8⟩ := hh.row
      rw [List.length_map] at e8
      cases e8
      obtain ⟨b, off, rfl, q0⟩ := row8_cell hr8 hx
      have g0 : (0 : Int) ≤ (i : Int) := by omega
      have g1 : (i : Int) < (l.length : Int) := by omega
      by_cases i0 : i = 0
      · subst i0
        clear hr8
        rw [Nat.add_zero] at q0
        go_upto_region 10 with fail
        go_quiet (fail)
        go_wp2_with fail
        go_roundg (gk - 1)
        case measure => omega
        case rel => exact ⟨1, by go_num, by omega, hh.upd ((Upd.refl [] _).drewN _)⟩
      · have i1 : i = 1 := by omega
        obtain ⟨y, hy⟩ : ∃ y, l[0]? = some y := ⟨l[0], List.getElem?_eq_getElem (by omega)⟩
        obtain ⟨b', off', e', q1⟩ := row8_cell hr8 hy
        cases e'
        have y2 : decide (x ≤ y) = false := decide_eq_false (by have := hl2 y x hy (by rw [← i1]; exact hx); omega)
        have y3 : decide (0 < (i : Int)) = true := decide_eq_true (by omega)
        have y3n : 0 < i := by omega
        have y4 : IntKind.i64.wrap ((i : Int) - 1) = 0 := by rw [i1]; decide
        have hi1 : Unit → i = 1 := fun _ => i1
        have g2 : (0 : Int) < (l.length : Int) := by omega
        clear hr8 i1 i0
        rw [Nat.add_zero] at q1
        go_upto_region 10 with fail
        go_quiet (fail)
        go_wp2_with fail
        go_roundg (gk - 1)
        case measure => omega
        case rel => exact ⟨i + 1, by go_num, by omega, hh.upd ((Upd.refl [] _).drewN _)⟩
    · have z1 : decide ((i : Int) < (l.length : Int)) = false := decide_eq_false (by omega)
      have fb := hh.blk (b := w.heap.size) (o := Obj.cells #[.int .u8 op, .int .u8 D, .int .u8 S, .int .i16 O, .int .i32 M] 24 (0, 0)) (by simp); have k0 := cell_of fb 0; have k1 := cell_of fb 1; have k2 := cell_of fb 2; have k3 := cell_of fb 3; have k4 := cell_of fb 4; have lb := lt_of_heap fb; simp only [List.getElem?_toArray, List.getElem?_cons_zero, List.getElem?_cons_succ] at k0 k1 k2 k3 k4; clear fb
      go_wp2_with (first | (go_at_call 25; refine (wide_c h _).mono ?_; rw [hwd]; rintro e w5 ⟨rfl, hb⟩; replace hh := hh.upd (up_below (Upd.refl [] _) hb); clear hb; clear k0 k1 k2 k3 k4 lb; have fb := hh.blk (b := w.heap.size) (o := Obj.cells #[.int .u8 op, .int .u8 D, .int .u8 S, .int .i16 O, .int .i32 M] 24 (0, 0)) (by simp); have k0 := cell_of fb 0; have k1 := cell_of fb 1; have k2 := cell_of fb 2; have k3 := cell_of fb 3; have k4 := cell_of fb 4; have lb := lt_of_heap fb; simp only [List.getElem?_toArray, List.getElem?_cons_zero, List.getElem?_cons_succ] at k0 k1 k2 k3 k4; clear fb) | (go_at_call 14; refine (alive_c _).mono ?_; rintro e w6 ⟨rfl, hb⟩; replace hh := hh.upd (up_below (Upd.refl [] _) hb); clear hb))
      go_ret
      exact ⟨rfl, hh.u⟩

set_option maxHeartbeats 4000000 in
set_option maxRecDepth 100000 in
include h in
theorem sound_5_0_f (hk : kindF op D S O M = 5) (l : List Int) (hl : readsF op D S O M = l) (hlen : l.length ≤ 2) (hl1 : ∀ (i : Nat) (x : Int), l[i]? = some x → x < 11) (hl2 : ∀ (x y : Int), l[0]? = some x → l[1]? = some y → x < y)
    (hw : writesF op D S O M = (0, false)) (hn : sizeF op D S O M = 0) (hwd : wideF op D S O M = false) (hd : D < 11) (hs : S < 11) :
    Calls Try.prog 6 #[.agg #[.int .u8 op, .int .u8 D, .int .u8 S, .int .i16 O, .int .i32 M]] w fun e w' => e = .returned (.bool true) ∧ Upd [] w w' := by
  have y5 : decide (D < 11) = true := decide_eq_true hd
  have y6 : decide (S < 11) = true := decide_eq_true hs
  have hh := (SepK.start w).alloc (Obj.cells #[.int .u8 op, .int .u8 D, .int .u8 S, .int .i16 O, .int .i32 M] 24)
  go_enter Try.func6, Try.ntmps6
  go_wp2_with fail
  refine (kind_c h _).mono ?_
  rw [hk]
  rintro e w1 ⟨rfl, hb⟩
  replace hh := hh.upd (up_below (Upd.refl [] _) hb)
  clear hb
  have fb := hh.blk (b := w.heap.size) (o := Obj.cells #[.int .u8 op, .int .u8 D, .int .u8 S, .int .i16 O, .int .i32 M] 24 (0, 0)) (by simp); have k0 := cell_of fb 0; have k1 := cell_of fb 1; have k2 := cell_of fb 2; have k3 := cell_of fb 3; have k4 := cell_of fb 4; have lb := lt_of_heap fb; simp only [List.getElem?_toArray, List.getElem?_cons_zero, List.getElem?_cons_succ] at k0 k1 k2 k3 k4; clear fb
  go_wp2_with fail
  refine (reads_c h _).mono ?_
  rw [hl]
  rintro e w2 ⟨v, rfl, hR, hb⟩
  replace hh := hh.more (up_below (Upd.refl [] _) hb) (Kd_row hR) (fun _ hb => hb)
  clear hb hR
  obtain ⟨A, c, rfl, -⟩ := hh.row
  rw [List.length_map] at hh
  clear k0 k1 k2 k3 k4 lb
  have fb := hh.blk (b := w.heap.size) (o := Obj.cells #[.int .u8 op, .int .u8 D, .int .u8 S, .int .i16 O, .int .i32 M] 24 (0, 0)) (by simp); have k0 := cell_of fb 0; have k1 := cell_of fb 1; have k2 := cell_of fb 2; have k3 := cell_of fb 3; have k4 := cell_of fb 4; have lb := lt_of_heap fb; simp only [List.getElem?_toArray, List.getElem?_cons_zero, List.getElem?_cons_succ] at k0 k1 k2 k3 k4; clear fb
  go_wp2_with fail
  refine (writes_c h _).mono ?_
  rw [hw]
  rintro e w3 ⟨rfl, hb⟩
  replace hh := hh.upd (up_below (Upd.refl [] _) hb)
  clear hb
  clear k0 k1 k2 k3 k4 lb
  have fb := hh.blk (b := w.heap.size) (o := Obj.cells #[.int .u8 op, .int .u8 D, .int .u8 S, .int .i16 O, .int .i32 M] 24 (0, 0)) (by simp); have k0 := cell_of fb 0; have k1 := cell_of fb 1; have k2 := cell_of fb 2; have k3 := cell_of fb 3; have k4 := cell_of fb 4; have lb := lt_of_heap fb; simp only [List.getElem?_toArray, List.getElem?_cons_zero, List.getElem?_cons_succ] at k0 k1 k2 k3 k4; clear fb
  go_wp2_with fail
  refine (size_c h _).mono ?_
  rw [hn]
  rintro e w4 ⟨rfl, hb⟩
  replace hh := hh.upd (up_below (Upd.refl [] _) hb)
  clear hb
  clear k0 k1 k2 k3 k4 lb
  have fb := hh.blk (b := w.heap.size) (o := Obj.cells #[.int .u8 op, .int .u8 D, .int .u8 S, .int .i16 O, .int .i32 M] 24 (0, 0)) (by simp); have k0 := cell_of fb 0; have k1 := cell_of fb 1; have k2 := cell_of fb 2; have k3 := cell_of fb 3; have k4 := cell_of fb 4; have lb := lt_of_heap fb; simp only [List.getElem?_toArray, List.getElem?_cons_zero, List.getElem?_cons_succ] at k0 k1 k2 k3 k4; clear fb
  go_wp2_with fail
  go_loopg [8] l.length (fun kq v8 w' => ∃ i : Nat, v8 = .int .i64 (i : Int) ∧ kq + i = l.length ∧ SepK w w' [(w.heap.size, Obj.cells #[.int .u8 op, .int .u8 D, .int .u8 S, .int .i16 O, .int .i32 M] 24 (0, 0))] (star (rowR 5 1 (.slice A l.length c) (l.map enc8)) emp))
  case atStart => exact ⟨0, rfl, rfl, hh⟩
  case round =>
    clear hh
    clear k0 k1 k2 k3 k4 lb
    obtain ⟨i, rfl, hk2, hh⟩ := hrel
    by_cases hi : i < l.length
    · have z1 : decide ((i : Int) < (l.length : Int)) = true := decide_eq_true (by omega)
      obtain ⟨x, hx⟩ : ∃ x, l[i]? = some x := ⟨l[i], List.getElem?_eq_getElem hi⟩
      have y1 : decide (11 ≤ x) = false := decide_eq_false (by have := hl1 i x hx; omega)
      obtain ⟨A8, c8, e8, hr8⟩ := hh.row
      rw [List.length_map] at e8
      cases e8
      obtain ⟨b, off, rfl, q0⟩ := row8_cell hr8 hx
      have g0 : (0 : Int) ≤ (i : Int) := by omega
      have g1 : (i : Int) < (l.length : Int) := by omega
      by_cases i0 : i = 0
      · subst i0
        clear hr8
        rw [Nat.add_zero] at q0
        go_upto_region 10 with fail
        go_quiet (fail)
        go_wp2_with fail
        go_roundg (gk - 1)
        case measure => omega
        case rel => exact ⟨1, by go_num, by omega, hh.upd ((Upd.refl [] _).drewN _)⟩
      · have i1 : i = 1 := by omega
        obtain ⟨y, hy⟩ : ∃ y, l[0]? = some y := ⟨l[0], List.getElem?_eq_getElem (by omega)⟩
        obtain ⟨b', off', e', q1⟩ := row8_cell hr8 hy
        cases e'
        have y2 : decide (x ≤ y) = false := decide_eq_false (by have := hl2 y x hy (by rw [← i1]; exact hx); omega)
        have y3 : decide (0 < (i : Int)) = true := decide_eq_true (by omega)
        have y3n : 0 < i := by omega
        have y4 : IntKind.i64.wrap ((i : Int) - 1) = 0 := by rw [i1]; decide
        have hi1 : Unit → i = 1 := fun _ => i1
        have g2 : (0 : Int) < (l.length : Int) := by omega
        clear hr8 i1 i0
        rw [Nat.add_zero] at q1
        go_upto_region 10 with fail
        go_quiet (fail)
        go_wp2_with fail
        go_roundg (gk - 1)
        case measure => omega
        case rel => exact ⟨i + 1, by go_num, by omega, hh.upd ((Upd.refl [] _).drewN _)⟩
    · have z1 : decide ((i : Int) < (l.length : Int)) = false := decide_eq_false (by omega)
      have fb := hh.blk (b := w.heap.size) (o := Obj.cells #[.int .u8 op, .int .u8 D, .int .u8 S, .int .i16 O, .int .i32 M] 24 (0, 0)) (by simp); have k0 := cell_of fb 0; have k1 := cell_of fb 1; have k2 := cell_of fb 2; have k3 := cell_of fb 3; have k4 := cell_of fb 4; have lb := lt_of_heap fb; simp only [List.getElem?_toArray, List.getElem?_cons_zero, List.getElem?_cons_succ] at k0 k1 k2 k3 k4; clear fb
      go_wp2_with (first | (go_at_call 25; refine (wide_c h _).mono ?_; rw [hwd]; rintro e w5 ⟨rfl, hb⟩; replace hh := hh.upd (up_below (Upd.refl [] _) hb); clear hb; clear k0 k1 k2 k3 k4 lb; have fb := hh.blk (b := w.heap.size) (o := Obj.cells #[.int .u8 op, .int .u8 D, .int .u8 S, .int .i16 O, .int .i32 M] 24 (0, 0)) (by simp); have k0 := cell_of fb 0; have k1 := cell_of fb 1; have k2 := cell_of fb 2; have k3 := cell_of fb 3; have k4 := cell_of fb 4; have lb := lt_of_heap fb; simp only [List.getElem?_toArray, List.getElem?_cons_zero, List.getElem?_cons_succ] at k0 k1 k2 k3 k4; clear fb) | (go_at_call 14; refine (alive_c _).mono ?_; rintro e w6 ⟨rfl, hb⟩; replace hh := hh.upd (up_below (Upd.refl [] _) hb); clear hb))
      go_ret
      exact ⟨rfl, hh.u⟩

set_option maxHeartbeats 4000000 in
set_option maxRecDepth 100000 in
include h in
theorem sound_5_0_t (hk : kindF op D S O M = 5) (l : List Int) (hl : readsF op D S O M = l) (hlen : l.length ≤ 2) (hl1 : ∀ (i : Nat) (x : Int), l[i]? = some x → x < 11) (hl2 : ∀ (x y : Int), l[0]? = some x → l[1]? = some y → x < y)
    (hw : writesF op D S O M = (0, false)) (hn : sizeF op D S O M = 0) (hwd : wideF op D S O M = true) (hd : D < 11) (hs : S < 11) :
    Calls Try.prog 6 #[.agg #[.int .u8 op, .int .u8 D, .int .u8 S, .int .i16 O, .int .i32 M]] w fun e w' => e = .returned (.bool true) ∧ Upd [] w w' := by
  have y5 : decide (D < 11) = true := decide_eq_true hd
  have y6 : decide (S < 11) = true := decide_eq_true hs
  have hh := (SepK.start w).alloc (Obj.cells #[.int .u8 op, .int .u8 D, .int .u8 S, .int .i16 O, .int .i32 M] 24)
  go_enter Try.func6, Try.ntmps6
  go_wp2_with fail
  refine (kind_c h _).mono ?_
  rw [hk]
  rintro e w1 ⟨rfl, hb⟩
  replace hh := hh.upd (up_below (Upd.refl [] _) hb)
  clear hb
  have fb := hh.blk (b := w.heap.size) (o := Obj.cells #[.int .u8 op, .int .u8 D, .int .u8 S, .int .i16 O, .int .i32 M] 24 (0, 0)) (by simp); have k0 := cell_of fb 0; have k1 := cell_of fb 1; have k2 := cell_of fb 2; have k3 := cell_of fb 3; have k4 := cell_of fb 4; have lb := lt_of_heap fb; simp only [List.getElem?_toArray, List.getElem?_cons_zero, List.getElem?_cons_succ] at k0 k1 k2 k3 k4; clear fb
  go_wp2_with fail
  refine (reads_c h _).mono ?_
  rw [hl]
  rintro e w2 ⟨v, rfl, hR, hb⟩
  replace hh := hh.more (up_below (Upd.refl [] _) hb) (Kd_row hR) (fun _ hb => hb)
  clear hb hR
  obtain ⟨A, c, rfl, -⟩ := hh.row
  rw [List.length_map] at hh
  clear k0 k1 k2 k3 k4 lb
  have fb := hh.blk (b := w.heap.size) (o := Obj.cells #[.int .u8 op, .int .u8 D, .int .u8 S, .int .i16 O, .int .i32 M] 24 (0, 0)) (by simp); have k0 := cell_of fb 0; have k1 := cell_of fb 1; have k2 := cell_of fb 2; have k3 := cell_of fb 3; have k4 := cell_of fb 4; have lb := lt_of_heap fb; simp only [List.getElem?_toArray, List.getElem?_cons_zero, List.getElem?_cons_succ] at k0 k1 k2 k3 k4; clear fb
  go_wp2_with fail
  refine (writes_c h _).mono ?_
  rw [hw]
  rintro e w3 ⟨rfl, hb⟩
  replace hh := hh.upd (up_below (Upd.refl [] _) hb)
  clear hb
  clear k0 k1 k2 k3 k4 lb
  have fb := hh.blk (b := w.heap.size) (o := Obj.cells #[.int .u8 op, .int .u8 D, .int .u8 S, .int .i16 O, .int .i32 M] 24 (0, 0)) (by simp); have k0 := cell_of fb 0; have k1 := cell_of fb 1; have k2 := cell_of fb 2; have k3 := cell_of fb 3; have k4 := cell_of fb 4; have lb := lt_of_heap fb; simp only [List.getElem?_toArray, List.getElem?_cons_zero, List.getElem?_cons_succ] at k0 k1 k2 k3 k4; clear fb
  go_wp2_with fail
  refine (size_c h _).mono ?_
  rw [hn]
  rintro e w4 ⟨rfl, hb⟩
  replace hh := hh.upd (up_below (Upd.refl [] _) hb)
  clear hb
  clear k0 k1 k2 k3 k4 lb
  have fb := hh.blk (b := w.heap.size) (o := Obj.cells #[.int .u8 op, .int .u8 D, .int .u8 S, .int .i16 O, .int .i32 M] 24 (0, 0)) (by simp); have k0 := cell_of fb 0; have k1 := cell_of fb 1; have k2 := cell_of fb 2; have k3 := cell_of fb 3; have k4 := cell_of fb 4; have lb := lt_of_heap fb; simp only [List.getElem?_toArray, List.getElem?_cons_zero, List.getElem?_cons_succ] at k0 k1 k2 k3 k4; clear fb
  go_wp2_with fail
  go_loopg [8] l.length (fun kq v8 w' => ∃ i : Nat, v8 = .int .i64 (i : Int) ∧ kq + i = l.length ∧ SepK w w' [(w.heap.size, Obj.cells #[.int .u8 op, .int .u8 D, .int .u8 S, .int .i16 O, .int .i32 M] 24 (0, 0))] (star (rowR 5 1 (.slice A l.length c) (l.map enc8)) emp))
  case atStart => exact ⟨0, rfl, rfl, hh⟩
  case round =>
    clear hh
    clear k0 k1 k2 k3 k4 lb
    obtain ⟨i, rfl, hk2, hh⟩ := hrel
    by_cases hi : i < l.length
    · have z1 : decide ((i : Int) < (l.length : Int)) = true := decide_eq_true (by omega)
      obtain ⟨x, hx⟩ : ∃ x, l[i]? = some x := ⟨l[i], List.getElem?_eq_getElem hi⟩
      have y1 : decide (11 ≤ x) = false := decide_eq_false (by have := hl1 i x hx; omega)
      obtain ⟨A8, c8, e8, hr8⟩ := hh.row
      rw [List.length_map] at e8
      cases e8
      obtain ⟨b, off, rfl, q0⟩ := row8_cell hr8 hx
      have g0 : (0 : Int) ≤ (i : Int) := by omega
      have g1 : (i : Int) < (l.length : Int) := by omega
      by_cases i0 : i = 0
      · subst i0
        clear hr8
        rw [Nat.add_zero] at q0
        go_upto_region 10 with fail
        go_quiet (fail)
        go_wp2_with fail
        go_roundg (gk - 1)
        case measure => omega
        case rel => exact ⟨1, by go_num, by omega, hh.upd ((Upd.refl [] _).drewN _)⟩
      · have i1 : i = 1 := by omega
        obtain ⟨y, hy⟩ : ∃ y, l[0]? = some y := ⟨l[0], List.getElem?_eq_getElem (by omega)⟩
        obtain ⟨b', off', e', q1⟩ := row8_cell hr8 hy
        cases e'
        have y2 : decide (x ≤ y) = false := decide_eq_false (by have := hl2 y x hy (by rw [← i1]; exact hx); omega)
        have y3 : decide (0 < (i : Int)) = true := decide_eq_true (by omega)
        have y3n : 0 < i := by omega
        have y4 : IntKind.i64.wrap ((i : Int) - 1) = 0 := by rw [i1]; decide
        have hi1 : Unit → i = 1 := fun _ => i1
        have g2 : (0 : Int) < (l.length : Int) := by omega
        clear hr8 i1 i0
        rw [Nat.add_zero] at q1
        go_upto_region 10 with fail
        go_quiet (fail)
        go_wp2_with fail
        go_roundg (gk - 1)
        case measure => omega
        case rel => exact ⟨i + 1, by go_num, by omega, hh.upd ((Upd.refl [] _).drewN _)⟩
    · have z1 : decide ((i : Int) < (l.length : Int)) = false := decide_eq_false (by omega)
      have fb := hh.blk (b := w.heap.size) (o := Obj.cells #[.int .u8 op, .int .u8 D, .int .u8 S, .int .i16 O, .int .i32 M] 24 (0, 0)) (by simp); have k0 := cell_of fb 0; have k1 := cell_of fb 1; have k2 := cell_of fb 2; have k3 := cell_of fb 3; have k4 := cell_of fb 4; have lb := lt_of_heap fb; simp only [List.getElem?_toArray, List.getElem?_cons_zero, List.getElem?_cons_succ] at k0 k1 k2 k3 k4; clear fb
      go_wp2_with (first | (go_at_call 25; refine (wide_c h _).mono ?_; rw [hwd]; rintro e w5 ⟨rfl, hb⟩; replace hh := hh.upd (up_below (Upd.refl [] _) hb); clear hb; clear k0 k1 k2 k3 k4 lb; have fb := hh.blk (b := w.heap.size) (o := Obj.cells #[.int .u8 op, .int .u8 D, .int .u8 S, .int .i16 O, .int .i32 M] 24 (0, 0)) (by simp); have k0 := cell_of fb 0; have k1 := cell_of fb 1; have k2 := cell_of fb 2; have k3 := cell_of fb 3; have k4 := cell_of fb 4; have lb := lt_of_heap fb; simp only [List.getElem?_toArray, List.getElem?_cons_zero, List.getElem?_cons_succ] at k0 k1 k2 k3 k4; clear fb) | (go_at_call 14; refine (alive_c _).mono ?_; rintro e w6 ⟨rfl, hb⟩; replace hh := hh.upd (up_below (Upd.refl [] _) hb); clear hb))
      go_ret
      exact ⟨rfl, hh.u⟩

set_option maxHeartbeats 4000000 in
set_option maxRecDepth 100000 in
include h in
theorem sound_6_0_f (hk : kindF op D S O M = 6) (l : List Int) (hl : readsF op D S O M = l) (hlen : l.length ≤ 2) (hl1 : ∀ (i : Nat) (x : Int), l[i]? = some x → x < 11) (hl2 : ∀ (x y : Int), l[0]? = some x → l[1]? = some y → x < y)
    (hw : writesF op D S O M = (0, true)) (hn : sizeF op D S O M = 0) (hwd : wideF op D S O M = false) (hd : D < 11) (hs : S < 11) :
    Calls Try.prog 6 #[.agg #[.int .u8 op, .int .u8 D, .int .u8 S, .int .i16 O, .int .i32 M]] w fun e w' => e = .returned (.bool true) ∧ Upd [] w w' := by
  have y5 : decide (D < 11) = true := decide_eq_true hd
  have y6 : decide (S < 11) = true := decide_eq_true hs
  have hh := (SepK.start w).alloc (Obj.cells #[.int .u8 op, .int .u8 D, .int .u8 S, .int .i16 O, .int .i32 M] 24)
  go_enter Try.func6, Try.ntmps6
  go_wp2_with fail
  refine (kind_c h _).mono ?_
  rw [hk]
  rintro e w1 ⟨rfl, hb⟩
  replace hh := hh.upd (up_below (Upd.refl [] _) hb)
  clear hb
  have fb := hh.blk (b := w.heap.size) (o := Obj.cells #[.int .u8 op, .int .u8 D, .int .u8 S, .int .i16 O, .int .i32 M] 24 (0, 0)) (by simp); have k0 := cell_of fb 0; have k1 := cell_of fb 1; have k2 := cell_of fb 2; have k3 := cell_of fb 3; have k4 := cell_of fb 4; have lb := lt_of_heap fb; simp only [List.getElem?_toArray, List.getElem?_cons_zero, List.getElem?_cons_succ] at k0 k1 k2 k3 k4; clear fb
  go_wp2_with fail
  refine (reads_c h _).mono ?_
  rw [hl]
  rintro e w2 ⟨v, rfl, hR, hb⟩
  replace hh := hh.more (up_below (Upd.refl [] _) hb) (Kd_row hR) (fun _ hb => hb)
  clear hb hR
  obtain ⟨A, c, rfl, -⟩ := hh.row
  rw [List.length_map] at hh
  clear k0 k1 k2 k3 k4 lb
  have fb := hh.blk (b := w.heap.size) (o := Obj.cells #[.int .u8 op, .int .u8 D, .int .u8 S, .int .i16 O, .int .i32 M] 24 (0, 0)) (by simp); have k0 := cell_of fb 0; have k1 := cell_of fb 1; have k2 := cell_of fb 2; have k3 := cell_of fb 3; have k4 := cell_of fb 4; have lb := lt_of_heap fb; simp only [List.getElem?_toArray, List.getElem?_cons_zero, List.getElem?_cons_succ] at k0 k1 k2 k3 k4; clear fb
  go_wp2_with fail
  refine (writes_c h _).mono ?_
  rw [hw]
  rintro e w3 ⟨rfl, hb⟩
  replace hh := hh.upd (up_below (Upd.refl [] _) hb)
  clear hb
  clear k0 k1 k2 k3 k4 lb
  have fb := hh.blk (b := w.heap.size) (o := Obj.cells #[.int .u8 op, .int .u8 D, .int .u8 S, .int .i16 O, .int .i32 M] 24 (0, 0)) (by simp); have k0 := cell_of fb 0; have k1 := cell_of fb 1; have k2 := cell_of fb 2; have k3 := cell_of fb 3; have k4 := cell_of fb 4; have lb := lt_of_heap fb; simp only [List.getElem?_toArray, List.getElem?_cons_zero, List.getElem?_cons_succ] at k0 k1 k2 k3 k4; clear fb
  go_wp2_with fail
  refine (size_c h _).mono ?_
  rw [hn]
  rintro e w4 ⟨rfl, hb⟩
  replace hh := hh.upd (up_below (Upd.refl [] _) hb)
  clear hb
  clear k0 k1 k2 k3 k4 lb
  have fb := hh.blk (b := w.heap.size) (o := Obj.cells #[.int .u8 op, .int .u8 D, .int .u8 S, .int .i16 O, .int .i32 M] 24 (0, 0)) (by simp); have k0 := cell_of fb 0; have k1 := cell_of fb 1; have k2 := cell_of fb 2; have k3 := cell_of fb 3; have k4 := cell_of fb 4; have lb := lt_of_heap fb; simp only [List.getElem?_toArray, List.getElem?_cons_zero, List.getElem?_cons_succ] at k0 k1 k2 k3 k4; clear fb
  go_wp2_with fail
  go_loopg [8] l.length (fun kq v8 w' => ∃ i : Nat, v8 = .int .i64 (i : Int) ∧ kq + i = l.length ∧ SepK w w' [(w.heap.size, Obj.cells #[.int .u8 op, .int .u8 D, .int .u8 S, .int .i16 O, .int .i32 M] 24 (0, 0))] (star (rowR 5 1 (.slice A l.length c) (l.map enc8)) emp))
  case atStart => exact ⟨0, rfl, rfl, hh⟩
  case round =>
    clear hh
    clear k0 k1 k2 k3 k4 lb
    obtain ⟨i, rfl, hk2, hh⟩ := hrel
    by_cases hi : i < l.length
    · have z1 : decide ((i : Int) < (l.length : Int)) = true := decide_eq_true (by omega)
      obtain ⟨x, hx⟩ : ∃ x, l[i]? = some x := ⟨l[i], List.getElem?_eq_getElem hi⟩
      have y1 : decide (11 ≤ x) = false := decide_eq_false (by have := hl1 i x hx; omega)
      obtain ⟨A8, c8, e8, hr8⟩ := hh.row
      rw [List.length_map] at e8
      cases e8
      obtain ⟨b, off, rfl, q0⟩ := row8_cell hr8 hx
      have g0 : (0 : Int) ≤ (i : Int) := by omega
      have g1 : (i : Int) < (l.length : Int) := by omega
      by_cases i0 : i = 0
      · subst i0
        clear hr8
        rw [Nat.add_zero] at q0
        go_upto_region 10 with fail
        go_quiet (fail)
        go_wp2_with fail
        go_roundg (gk - 1)
        case measure => omega
        case rel => exact ⟨1, by go_num, by omega, hh.upd ((Upd.refl [] _).drewN _)⟩
      · have i1 : i = 1 := by omega
        obtain ⟨y, hy⟩ : ∃ y, l[0]? = some y := ⟨l[0], List.getElem?_eq_getElem (by omega)⟩
        obtain ⟨b', off', e', q1⟩ := row8_cell hr8 hy
        cases e'
        have y2 : decide (x ≤ y) = false := decide_eq_false (by have := hl2 y x hy (by rw [← i1]; exact hx); omega)
        have y3 : decide (0 < (i : Int)) = true := decide_eq_true (by omega)
        have y3n : 0 < i := by omega
        have y4 : IntKind.i64.wrap ((i : Int) - 1) = 0 := by rw [i1]; decide
        have hi1 : Unit → i = 1 := fun _ => i1
        have g2 : (0 : Int) < (l.length : Int) := by omega
        clear hr8 i1 i0
        rw [Nat.add_zero] at q1
        go_upto_region 10 with fail
        go_quiet (fail)
        go_wp2_with fail
        go_roundg (gk - 1)
        case measure => omega
        case rel => exact ⟨i + 1, by go_num, by omega, hh.upd ((Upd.refl [] _).drewN _)⟩
    · have z1 : decide ((i : Int) < (l.length : Int)) = false := decide_eq_false (by omega)
      have fb := hh.blk (b := w.heap.size) (o := Obj.cells #[.int .u8 op, .int .u8 D, .int .u8 S, .int .i16 O, .int .i32 M] 24 (0, 0)) (by simp); have k0 := cell_of fb 0; have k1 := cell_of fb 1; have k2 := cell_of fb 2; have k3 := cell_of fb 3; have k4 := cell_of fb 4; have lb := lt_of_heap fb; simp only [List.getElem?_toArray, List.getElem?_cons_zero, List.getElem?_cons_succ] at k0 k1 k2 k3 k4; clear fb
      go_wp2_with (first | (go_at_call 25; refine (wide_c h _).mono ?_; rw [hwd]; rintro e w5 ⟨rfl, hb⟩; replace hh := hh.upd (up_below (Upd.refl [] _) hb); clear hb; clear k0 k1 k2 k3 k4 lb; have fb := hh.blk (b := w.heap.size) (o := Obj.cells #[.int .u8 op, .int .u8 D, .int .u8 S, .int .i16 O, .int .i32 M] 24 (0, 0)) (by simp); have k0 := cell_of fb 0; have k1 := cell_of fb 1; have k2 := cell_of fb 2; have k3 := cell_of fb 3; have k4 := cell_of fb 4; have lb := lt_of_heap fb; simp only [List.getElem?_toArray, List.getElem?_cons_zero, List.getElem?_cons_succ] at k0 k1 k2 k3 k4; clear fb) | (go_at_call 14; refine (alive_c _).mono ?_; rintro e w6 ⟨rfl, hb⟩; replace hh := hh.upd (up_below (Upd.refl [] _) hb); clear hb))
      go_ret
      exact ⟨rfl, hh.u⟩

set_option maxHeartbeats 4000000 in
set_option maxRecDepth 100000 in
include h in
theorem sound_7_0_f (hk : kindF op D S O M = 7) (l : List Int) (hl : readsF op D S O M = l) (hlen : l.length ≤ 2) (hl1 : ∀ (i : Nat) (x : Int), l[i]? = some x → x < 11) (hl2 : ∀ (x y : Int), l[0]? = some x → l[1]? = some y → x < y)
    (hw : writesF op D S O M = (0, true)) (hn : sizeF op D S O M = 0) (hwd : wideF op D S O M = false) (hd : D < 11) (hs : S < 11) :
    Calls Try.prog 6 #[.agg #[.int .u8 op, .int .u8 D, .int .u8 S, .int .i16 O, .int .i32 M]] w fun e w' => e = .returned (.bool true) ∧ Upd [] w w' := by
  have y5 : decide (D < 11) = true := decide_eq_true hd
  have y6 : decide (S < 11) = true := decide_eq_true hs
  have hh := (SepK.start w).alloc (Obj.cells #[.int .u8 op, .int .u8 D, .int .u8 S, .int .i16 O, .int .i32 M] 24)
  go_enter Try.func6, Try.ntmps6
  go_wp2_with fail
  refine (kind_c h _).mono ?_
  rw [hk]
  rintro e w1 ⟨rfl, hb⟩
  replace hh := hh.upd (up_below (Upd.refl [] _) hb)
  clear hb
  have fb := hh.blk (b := w.heap.size) (o := Obj.cells #[.int .u8 op, .int .u8 D, .int .u8 S, .int .i16 O, .int .i32 M] 24 (0, 0)) (by simp); have k0 := cell_of fb 0; have k1 := cell_of fb 1; have k2 := cell_of fb 2; have k3 := cell_of fb 3; have k4 := cell_of fb 4; have lb := lt_of_heap fb; simp only [List.getElem?_toArray, List.getElem?_cons_zero, List.getElem?_cons_succ] at k0 k1 k2 k3 k4; clear fb
  go_wp2_with fail
  refine (reads_c h _).mono ?_
  rw [hl]
  rintro e w2 ⟨v, rfl, hR, hb⟩
  replace hh := hh.more (up_below (Upd.refl [] _) hb) (Kd_row hR) (fun _ hb => hb)
  clear hb hR
  obtain ⟨A, c, rfl, -⟩ := hh.row
  rw [List.length_map] at hh
  clear k0 k1 k2 k3 k4 lb
  have fb := hh.blk (b := w.heap.size) (o := Obj.cells #[.int .u8 op, .int .u8 D, .int .u8 S, .int .i16 O, .int .i32 M] 24 (0, 0)) (by simp); have k0 := cell_of fb 0; have k1 := cell_of fb 1; have k2 := cell_of fb 2; have k3 := cell_of fb 3; have k4 := cell_of fb 4; have lb := lt_of_heap fb; simp only [List.getElem?_toArray, List.getElem?_cons_zero, List.getElem?_cons_succ] at k0 k1 k2 k3 k4; clear fb
  go_wp2_with fail
  refine (writes_c h _).mono ?_
  rw [hw]
  rintro e w3 ⟨rfl, hb⟩
  replace hh := hh.upd (up_below (Upd.refl [] _) hb)
  clear hb
  clear k0 k1 k2 k3 k4 lb
  have fb := hh.blk (b := w.heap.size) (o := Obj.cells #[.int .u8 op, .int .u8 D, .int .u8 S, .int .i16 O, .int .i32 M] 24 (0, 0)) (by simp); have k0 := cell_of fb 0; have k1 := cell_of fb 1; have k2 := cell_of fb 2; have k3 := cell_of fb 3; have k4 := cell_of fb 4; have lb := lt_of_heap fb; simp only [List.getElem?_toArray, List.getElem?_cons_zero, List.getElem?_cons_succ] at k0 k1 k2 k3 k4; clear fb
  go_wp2_with fail
  refine (size_c h _).mono ?_
  rw [hn]
  rintro e w4 ⟨rfl, hb⟩
  replace hh := hh.upd (up_below (Upd.refl [] _) hb)
  clear hb
  clear k0 k1 k2 k3 k4 lb
  have fb := hh.blk (b := w.heap.size) (o := Obj.cells #[.int .u8 op, .int .u8 D, .int .u8 S, .int .i16 O, .int .i32 M] 24 (0, 0)) (by simp); have k0 := cell_of fb 0; have k1 := cell_of fb 1; have k2 := cell_of fb 2; have k3 := cell_of fb 3; have k4 := cell_of fb 4; have lb := lt_of_heap fb; simp only [List.getElem?_toArray, List.getElem?_cons_zero, List.getElem?_cons_succ] at k0 k1 k2 k3 k4; clear fb
  go_wp2_with fail
  go_loopg [8] l.length (fun kq v8 w' => ∃ i : Nat, v8 = .int .i64 (i : Int) ∧ kq + i = l.length ∧ SepK w w' [(w.heap.size, Obj.cells #[.int .u8 op, .int .u8 D, .int .u8 S, .int .i16 O, .int .i32 M] 24 (0, 0))] (star (rowR 5 1 (.slice A l.length c) (l.map enc8)) emp))
  case atStart => exact ⟨0, rfl, rfl, hh⟩
  case round =>
    clear hh
    clear k0 k1 k2 k3 k4 lb
    obtain ⟨i, rfl, hk2, hh⟩ := hrel
    by_cases hi : i < l.length
    · have z1 : decide ((i : Int) < (l.length : Int)) = true := decide_eq_true (by omega)
      obtain ⟨x, hx⟩ : ∃ x, l[i]? = some x := ⟨l[i], List.getElem?_eq_getElem hi⟩
      have y1 : decide (11 ≤ x) = false := decide_eq_false (by have := hl1 i x hx; omega)
      obtain ⟨A8, c8, e8, hr8⟩ := hh.row
      rw [List.length_map] at e8
      cases e8
      obtain ⟨b, off, rfl, q0⟩ := row8_cell hr8 hx
      have g0 : (0 : Int) ≤ (i : Int) := by omega
      have g1 : (i : Int) < (l.length : Int) := by omega
      by_cases i0 : i = 0
      · subst i0
        clear hr8
        rw [Nat.add_zero] at q0
        go_upto_region 10 with fail
        go_quiet (fail)
        go_wp2_with fail
        go_roundg (gk - 1)
        case measure => omega
        case rel => exact ⟨1, by go_num, by omega, hh.upd ((Upd.refl [] _).drewN _)⟩
      · have i1 : i = 1 := by omega
        obtain ⟨y, hy⟩ : ∃ y, l[0]? = some y := ⟨l[0], List.getElem?_eq_getElem (by omega)⟩
        obtain ⟨b', off', e', q1⟩ := row8_cell hr8 hy
        cases e'
        have y2 : decide (x ≤ y) = false := decide_eq_false (by have := hl2 y x hy (by rw [← i1]; exact hx); omega)
        have y3 : decide (0 < (i : Int)) = true := decide_eq_true (by omega)
        have y3n : 0 < i := by omega
        have y4 : IntKind.i64.wrap ((i : Int) - 1) = 0 := by rw [i1]; decide
        have hi1 : Unit → i = 1 := fun _ => i1
        have g2 : (0 : Int) < (l.length : Int) := by omega
        clear hr8 i1 i0
        rw [Nat.add_zero] at q1
        go_upto_region 10 with fail
        go_quiet (fail)
        go_wp2_with fail
        go_roundg (gk - 1)
        case measure => omega
        case rel => exact ⟨i + 1, by go_num, by omega, hh.upd ((Upd.refl [] _).drewN _)⟩
    · have z1 : decide ((i : Int) < (l.length : Int)) = false := decide_eq_false (by omega)
      have fb := hh.blk (b := w.heap.size) (o := Obj.cells #[.int .u8 op, .int .u8 D, .int .u8 S, .int .i16 O, .int .i32 M] 24 (0, 0)) (by simp); have k0 := cell_of fb 0; have k1 := cell_of fb 1; have k2 := cell_of fb 2; have k3 := cell_of fb 3; have k4 := cell_of fb 4; have lb := lt_of_heap fb; simp only [List.getElem?_toArray, List.getElem?_cons_zero, List.getElem?_cons_succ] at k0 k1 k2 k3 k4; clear fb
      go_wp2_with (first | (go_at_call 25; refine (wide_c h _).mono ?_; rw [hwd]; rintro e w5 ⟨rfl, hb⟩; replace hh := hh.upd (up_below (Upd.refl [] _) hb); clear hb; clear k0 k1 k2 k3 k4 lb; have fb := hh.blk (b := w.heap.size) (o := Obj.cells #[.int .u8 op, .int .u8 D, .int .u8 S, .int .i16 O, .int .i32 M] 24 (0, 0)) (by simp); have k0 := cell_of fb 0; have k1 := cell_of fb 1; have k2 := cell_of fb 2; have k3 := cell_of fb 3; have k4 := cell_of fb 4; have lb := lt_of_heap fb; simp only [List.getElem?_toArray, List.getElem?_cons_zero, List.getElem?_cons_succ] at k0 k1 k2 k3 k4; clear fb) | (go_at_call 14; refine (alive_c _).mono ?_; rintro e w6 ⟨rfl, hb⟩; replace hh := hh.upd (up_below (Upd.refl [] _) hb); clear hb))
      go_ret
      exact ⟨rfl, hh.u⟩

set_option maxHeartbeats 4000000 in
set_option maxRecDepth 100000 in
include h in
theorem sound_8_0_f (hk : kindF op D S O M = 8) (l : List Int) (hl : readsF op D S O M = l) (hlen : l.length ≤ 2) (hl1 : ∀ (i : Nat) (x : Int), l[i]? = some x → x < 11) (hl2 : ∀ (x y : Int), l[0]? = some x → l[1]? = some y → x < y)
    (hw : writesF op D S O M = (0, false)) (hn : sizeF op D S O M = 0) (hwd : wideF op D S O M = false) (hd : D < 11) (hs : S < 11) :
    Calls Try.prog 6 #[.agg #[.int .u8 op, .int .u8 D, .int .u8 S, .int .i16 O, .int .i32 M]] w fun e w' => e = .returned (.bool true) ∧ Upd [] w w' := by
  have y5 : decide (D < 11) = true := decide_eq_true hd
  have y6 : decide (S < 11) = true := decide_eq_true hs
  have hh := (SepK.start w).alloc (Obj.cells #[.int .u8 op, .int .u8 D, .int .u8 S, .int .i16 O, .int .i32 M] 24)
  go_enter Try.func6, Try.ntmps6
  go_wp2_with fail
  refine (kind_c h _).mono ?_
  rw [hk]
  rintro e w1 ⟨rfl, hb⟩
  replace hh := hh.upd (up_below (Upd.refl [] _) hb)
  clear hb
  have fb := hh.blk (b := w.heap.size) (o := Obj.cells #[.int .u8 op, .int .u8 D, .int .u8 S, .int .i16 O, .int .i32 M] 24 (0, 0)) (by simp); have k0 := cell_of fb 0; have k1 := cell_of fb 1; have k2 := cell_of fb 2; have k3 := cell_of fb 3; have k4 := cell_of fb 4; have lb := lt_of_heap fb; simp only [List.getElem?_toArray, List.getElem?_cons_zero, List.getElem?_cons_succ] at k0 k1 k2 k3 k4; clear fb
  go_wp2_with fail
  refine (reads_c h _).mono ?_
  rw [hl]
  rintro e w2 ⟨v, rfl, hR, hb⟩
  replace hh := hh.more (up_below (Upd.refl [] _) hb) (Kd_row hR) (fun _ hb => hb)
  clear hb hR
  obtain ⟨A, c, rfl, -⟩ := hh.row
  rw [List.length_map] at hh
  clear k0 k1 k2 k3 k4 lb
  have fb := hh.blk (b := w.heap.size) (o := Obj.cells #[.int .u8 op, .int .u8 D, .int .u8 S, .int .i16 O, .int .i32 M] 24 (0, 0)) (by simp); have k0 := cell_of fb 0; have k1 := cell_of fb 1; have k2 := cell_of fb 2; have k3 := cell_of fb 3; have k4 := cell_of fb 4; have lb := lt_of_heap fb; simp only [List.getElem?_toArray, List.getElem?_cons_zero, List.getElem?_cons_succ] at k0 k1 k2 k3 k4; clear fb
  go_wp2_with fail
  refine (writes_c h _).mono ?_
  rw [hw]
  rintro e w3 ⟨rfl, hb⟩
  replace hh := hh.upd (up_below (Upd.refl [] _) hb)
  clear hb
  clear k0 k1 k2 k3 k4 lb
  have fb := hh.blk (b := w.heap.size) (o := Obj.cells #[.int .u8 op, .int .u8 D, .int .u8 S, .int .i16 O, .int .i32 M] 24 (0, 0)) (by simp); have k0 := cell_of fb 0; have k1 := cell_of fb 1; have k2 := cell_of fb 2; have k3 := cell_of fb 3; have k4 := cell_of fb 4; have lb := lt_of_heap fb; simp only [List.getElem?_toArray, List.getElem?_cons_zero, List.getElem?_cons_succ] at k0 k1 k2 k3 k4; clear fb
  go_wp2_with fail
  refine (size_c h _).mono ?_
  rw [hn]
  rintro e w4 ⟨rfl, hb⟩
  replace hh := hh.upd (up_below (Upd.refl [] _) hb)
  clear hb
  clear k0 k1 k2 k3 k4 lb
  have fb := hh.blk (b := w.heap.size) (o := Obj.cells #[.int .u8 op, .int .u8 D, .int .u8 S, .int .i16 O, .int .i32 M] 24 (0, 0)) (by simp); have k0 := cell_of fb 0; have k1 := cell_of fb 1; have k2 := cell_of fb 2; have k3 := cell_of fb 3; have k4 := cell_of fb 4; have lb := lt_of_heap fb; simp only [List.getElem?_toArray, List.getElem?_cons_zero, List.getElem?_cons_succ] at k0 k1 k2 k3 k4; clear fb
  go_wp2_with fail
  go_loopg [8] l.length (fun kq v8 w' => ∃ i : Nat, v8 = .int .i64 (i : Int) ∧ kq + i = l.length ∧ SepK w w' [(w.heap.size, Obj.cells #[.int .u8 op, .int .u8 D, .int .u8 S, .int .i16 O, .int .i32 M] 24 (0, 0))] (star (rowR 5 1 (.slice A l.length c) (l.map enc8)) emp))
  case atStart => exact ⟨0, rfl, rfl, hh⟩
  case round =>
    clear hh
    clear k0 k1 k2 k3 k4 lb
    obtain ⟨i, rfl, hk2, hh⟩ := hrel
    by_cases hi : i < l.length
    · have z1 : decide ((i : Int) < (l.length : Int)) = true := decide_eq_true (by omega)
      obtain ⟨x, hx⟩ : ∃ x, l[i]? = some x := ⟨l[i], List.getElem?_eq_getElem hi⟩
      have y1 : decide (11 ≤ x) = false := decide_eq_false (by have := hl1 i x hx; omega)
      obtain ⟨A8, c8, e8, hr8⟩ := hh.row
      rw [List.length_map] at e8
      cases e8
      obtain ⟨b, off, rfl, q0⟩ := row8_cell hr8 hx
      have g0 : (0 : Int) ≤ (i : Int) := by omega
      have g1 : (i : Int) < (l.length : Int) := by omega
      by_cases i0 : i = 0
      · subst i0
        clear hr8
        rw [Nat.add_zero] at q0
        go_upto_region 10 with fail
        go_quiet (fail)
        go_wp2_with fail
        go_roundg (gk - 1)
        case measure => omega
        case rel => exact ⟨1, by go_num, by omega, hh.upd ((Upd.refl [] _).drewN _)⟩
      · have i1 : i = 1 := by omega
        obtain ⟨y, hy⟩ : ∃ y, l[0]? = some y := ⟨l[0], List.getElem?_eq_getElem (by omega)⟩
        obtain ⟨b', off', e', q1⟩ := row8_cell hr8 hy
        cases e'
        have y2 : decide (x ≤ y) = false := decide_eq_false (by have := hl2 y x hy (by rw [← i1]; exact hx); omega)
        have y3 : decide (0 < (i : Int)) = true := decide_eq_true (by omega)
        have y3n : 0 < i := by omega
        have y4 : IntKind.i64.wrap ((i : Int) - 1) = 0 := by rw [i1]; decide
        have hi1 : Unit → i = 1 := fun _ => i1
        have g2 : (0 : Int) < (l.length : Int) := by omega
        clear hr8 i1 i0
        rw [Nat.add_zero] at q1
        go_upto_region 10 with fail
        go_quiet (fail)
        go_wp2_with fail
        go_roundg (gk - 1)
        case measure => omega
        case rel => exact ⟨i + 1, by go_num, by omega, hh.upd ((Upd.refl [] _).drewN _)⟩
    · have z1 : decide ((i : Int) < (l.length : Int)) = false := decide_eq_false (by omega)
      have fb := hh.blk (b := w.heap.size) (o := Obj.cells #[.int .u8 op, .int .u8 D, .int .u8 S, .int .i16 O, .int .i32 M] 24 (0, 0)) (by simp); have k0 := cell_of fb 0; have k1 := cell_of fb 1; have k2 := cell_of fb 2; have k3 := cell_of fb 3; have k4 := cell_of fb 4; have lb := lt_of_heap fb; simp only [List.getElem?_toArray, List.getElem?_cons_zero, List.getElem?_cons_succ] at k0 k1 k2 k3 k4; clear fb
      go_wp2_with (first | (go_at_call 25; refine (wide_c h _).mono ?_; rw [hwd]; rintro e w5 ⟨rfl, hb⟩; replace hh := hh.upd (up_below (Upd.refl [] _) hb); clear hb; clear k0 k1 k2 k3 k4 lb; have fb := hh.blk (b := w.heap.size) (o := Obj.cells #[.int .u8 op, .int .u8 D, .int .u8 S, .int .i16 O, .int .i32 M] 24 (0, 0)) (by simp); have k0 := cell_of fb 0; have k1 := cell_of fb 1; have k2 := cell_of fb 2; have k3 := cell_of fb 3; have k4 := cell_of fb 4; have lb := lt_of_heap fb; simp only [List.getElem?_toArray, List.getElem?_cons_zero, List.getElem?_cons_succ] at k0 k1 k2 k3 k4; clear fb) | (go_at_call 14; refine (alive_c _).mono ?_; rintro e w6 ⟨rfl, hb⟩; replace hh := hh.upd (up_below (Upd.refl [] _) hb); clear hb))
      go_ret
      exact ⟨rfl, hh.u⟩

set_option maxHeartbeats 4000000 in
set_option maxRecDepth 100000 in
include h in
theorem sound_9_0_f (hk : kindF op D S O M = 9) (l : List Int) (hl : readsF op D S O M = l) (hlen : l.length ≤ 2) (hl1 : ∀ (i : Nat) (x : Int), l[i]? = some x → x < 11) (hl2 : ∀ (x y : Int), l[0]? = some x → l[1]? = some y → x < y)
    (hw : writesF op D S O M = (D, true)) (hn : sizeF op D S O M = 0) (hwd : wideF op D S O M = false) (hD : D < 10) (hd : D < 11) (hs : S < 11) :
    Calls Try.prog 6 #[.agg #[.int .u8 op, .int .u8 D, .int .u8 S, .int .i16 O, .int .i32 M]] w fun e w' => e = .returned (.bool true) ∧ Upd [] w w' := by
  have yD : decide (10 ≤ D) = false := decide_eq_false (by omega)
  have y5 : decide (D < 11) = true := decide_eq_true hd
  have y6 : decide (S < 11) = true := decide_eq_true hs
  have hh := (SepK.start w).alloc (Obj.cells #[.int .u8 op, .int .u8 D, .int .u8 S, .int .i16 O, .int .i32 M] 24)
  go_enter Try.func6, Try.ntmps6
  go_wp2_with fail
  refine (kind_c h _).mono ?_
  rw [hk]
  rintro e w1 ⟨rfl, hb⟩
  replace hh := hh.upd (up_below (Upd.refl [] _) hb)
  clear hb
  have fb := hh.blk (b := w.heap.size) (o := Obj.cells #[.int .u8 op, .int .u8 D, .int .u8 S, .int .i16 O, .int .i32 M] 24 (0, 0)) (by simp); have k0 := cell_of fb 0; have k1 := cell_of fb 1; have k2 := cell_of fb 2; have k3 := cell_of fb 3; have k4 := cell_of fb 4; have lb := lt_of_heap fb; simp only [List.getElem?_toArray, List.getElem?_cons_zero, List.getElem?_cons_succ] at k0 k1 k2 k3 k4; clear fb
  go_wp2_with fail
  refine (reads_c h _).mono ?_
  rw [hl]
  rintro e w2 ⟨v, rfl, hR, hb⟩
  replace hh := hh.more (up_below (Upd.refl [] _) hb) (Kd_row hR) (fun _ hb => hb)
  clear hb hR
  obtain ⟨A, c, rfl, -⟩ := hh.row
  rw [List.length_map] at hh
  clear k0 k1 k2 k3 k4 lb
  have fb := hh.blk (b := w.heap.size) (o := Obj.cells #[.int .u8 op, .int .u8 D, .int .u8 S, .int .i16 O, .int .i32 M] 24 (0, 0)) (by simp); have k0 := cell_of fb 0; have k1 := cell_of fb 1; have k2 := cell_of fb 2; have k3 := cell_of fb 3; have k4 := cell_of fb 4; have lb := lt_of_heap fb; simp only [List.getElem?_toArray, List.getElem?_cons_zero, List.getElem?_cons_succ] at k0 k1 k2 k3 k4; clear fb
  go_wp2_with fail
  refine (writes_c h _).mono ?_
  rw [hw]
  rintro e w3 ⟨rfl, hb⟩
  replace hh := hh.upd (up_below (Upd.refl [] _) hb)
  clear hb
  clear k0 k1 k2 k3 k4 lb
  have fb := hh.blk (b := w.heap.size) (o := Obj.cells #[.int .u8 op, .int .u8 D, .int .u8 S, .int .i16 O, .int .i32 M] 24 (0, 0)) (by simp); have k0 := cell_of fb 0; have k1 := cell_of fb 1; have k2 := cell_of fb 2; have k3 := cell_of fb 3; have k4 := cell_of fb 4; have lb := lt_of_heap fb; simp only [List.getElem?_toArray, List.getElem?_cons_zero, List.getElem?_cons_succ] at k0 k1 k2 k3 k4; clear fb
  go_wp2_with fail
  refine (size_c h _).mono ?_
  rw [hn]
  rintro e w4 ⟨rfl, hb⟩
  replace hh := hh.upd (up_below (Upd.refl [] _) hb)
  clear hb
  clear k0 k1 k2 k3 k4 lb
  have fb := hh.blk (b := w.heap.size) (o := Obj.cells #[.int .u8 op, .int .u8 D, .int .u8 S, .int .i16 O, .int .i32 M] 24 (0, 0)) (by simp); have k0 := cell_of fb 0; have k1 := cell_of fb 1; have k2 := cell_of fb 2; have k3 := cell_of fb 3; have k4 := cell_of fb 4; have lb := lt_of_heap fb; simp only [List.getElem?_toArray, List.getElem?_cons_zero, List.getElem?_cons_succ] at k0 k1 k2 k3 k4; clear fb
  go_wp2_with fail
  go_loopg [8] l.length (fun kq v8 w' => ∃ i : Nat, v8 = .int .i64 (i : Int) ∧ kq + i = l.length ∧ SepK w w' [(w.heap.size, Obj.cells #[.int .u8 op, .int .u8 D, .int .u8 S, .int .i16 O, .int .i32 M] 24 (0, 0))] (star (rowR 5 1 (.slice A l.length c) (l.map enc8)) emp))
  case atStart => exact ⟨0, rfl, rfl, hh⟩
  case round =>
    clear hh
    clear k0 k1 k2 k3 k4 lb
    obtain ⟨i, rfl, hk2, hh⟩ := hrel
    by_cases hi : i < l.length
    · have z1 : decide ((i : Int) < (l.length : Int)) = true := decide_eq_true (by omega)
      obtain ⟨x, hx⟩ : ∃ x, l[i]? = some x := ⟨l[i], List.getElem?_eq_getElem hi⟩
      have y1 : decide (11 ≤ x) = false := decide_eq_false (by have := hl1 i x hx; omega)
      obtain ⟨A8, c8, e8, hr8⟩ := hh.row
      rw [List.length_map] at e8
      cases e8
      obtain ⟨b, off, rfl, q0⟩ := row8_cell hr8 hx
      have g0 : (0 : Int) ≤ (i : Int) := by omega
      have g1 : (i : Int) < (l.length : Int) := by omega
      by_cases i0 : i = 0
      · subst i0
        clear hr8
        rw [Nat.add_zero] at q0
        go_upto_region 10 with fail
        go_quiet (fail)
        go_wp2_with fail
        go_roundg (gk - 1)
        case measure => omega
        case rel => exact ⟨1, by go_num, by omega, hh.upd ((Upd.refl [] _).drewN _)⟩
      · have i1 : i = 1 := by omega
        obtain ⟨y, hy⟩ : ∃ y, l[0]? = some y := ⟨l[0], List.getElem?_eq_getElem (by omega)⟩
        obtain ⟨b', off', e', q1⟩ := row8_cell hr8 hy
        cases e'
        have y2 : decide (x ≤ y) = false := decide_eq_false (by have := hl2 y x hy (by rw [← i1]; exact hx); omega)
        have y3 : decide (0 < (i : Int)) = true := decide_eq_true (by omega)
        have y3n : 0 < i := by omega
        have y4 : IntKind.i64.wrap ((i : Int) - 1) = 0 := by rw [i1]; decide
        have hi1 : Unit → i = 1 := fun _ => i1
        have g2 : (0 : Int) < (l.length : Int) := by omega
        clear hr8 i1 i0
        rw [Nat.add_zero] at q1
        go_upto_region 10 with fail
        go_quiet (fail)
        go_wp2_with fail
        go_roundg (gk - 1)
        case measure => omega
        case rel => exact ⟨i + 1, by go_num, by omega, hh.upd ((Upd.refl [] _).drewN _)⟩
    · have z1 : decide ((i : Int) < (l.length : Int)) = false := decide_eq_false (by omega)
      have fb := hh.blk (b := w.heap.size) (o := Obj.cells #[.int .u8 op, .int .u8 D, .int .u8 S, .int .i16 O, .int .i32 M] 24 (0, 0)) (by simp); have k0 := cell_of fb 0; have k1 := cell_of fb 1; have k2 := cell_of fb 2; have k3 := cell_of fb 3; have k4 := cell_of fb 4; have lb := lt_of_heap fb; simp only [List.getElem?_toArray, List.getElem?_cons_zero, List.getElem?_cons_succ] at k0 k1 k2 k3 k4; clear fb
      go_wp2_with (first | (go_at_call 25; refine (wide_c h _).mono ?_; rw [hwd]; rintro e w5 ⟨rfl, hb⟩; replace hh := hh.upd (up_below (Upd.refl [] _) hb); clear hb; clear k0 k1 k2 k3 k4 lb; have fb := hh.blk (b := w.heap.size) (o := Obj.cells #[.int .u8 op, .int .u8 D, .int .u8 S, .int .i16 O, .int .i32 M] 24 (0, 0)) (by simp); have k0 := cell_of fb 0; have k1 := cell_of fb 1; have k2 := cell_of fb 2; have k3 := cell_of fb 3; have k4 := cell_of fb 4; have lb := lt_of_heap fb; simp only [List.getElem?_toArray, List.getElem?_cons_zero, List.getElem?_cons_succ] at k0 k1 k2 k3 k4; clear fb) | (go_at_call 14; refine (alive_c _).mono ?_; rintro e w6 ⟨rfl, hb⟩; replace hh := hh.upd (up_below (Upd.refl [] _) hb); clear hb))
      go_ret
      exact ⟨rfl, hh.u⟩

set_option maxHeartbeats 4000000 in
set_option maxRecDepth 100000 in
include h in
theorem sound_10_0_f (hk : kindF op D S O M = 10) (l : List Int) (hl : readsF op D S O M = l) (hlen : l.length ≤ 2) (hl1 : ∀ (i : Nat) (x : Int), l[i]? = some x → x < 11) (hl2 : ∀ (x y : Int), l[0]? = some x → l[1]? = some y → x < y)
    (hw : writesF op D S O M = (0, false)) (hn : sizeF op D S O M = 0) (hwd : wideF op D S O M = false) (hd : D < 11) (hs : S < 11) :
    Calls Try.prog 6 #[.agg #[.int .u8 op, .int .u8 D, .int .u8 S, .int .i16 O, .int .i32 M]] w fun e w' => e = .returned (.bool true) ∧ Upd [] w w' := by
  have y5 : decide (D < 11) = true := decide_eq_true hd
  have y6 : decide (S < 11) = true := decide_eq_true hs
  have hh := (SepK.start w).alloc (Obj.cells #[.int .u8 op, .int .u8 D, .int .u8 S, .int .i16 O, .int .i32 M] 24)
  go_enter Try.func6, Try.ntmps6
  go_wp2_with fail
  refine (kind_c h _).mono ?_
  rw [hk]
  rintro e w1 ⟨rfl, hb⟩
  replace hh := hh.upd (up_below (Upd.refl [] _) hb)
  clear hb
  have fb := hh.blk (b := w.heap.size) (o := Obj.cells #[.int .u8 op, .int .u8 D, .int .u8 S, .int .i16 O, .int .i32 M] 24 (0, 0)) (by simp); have k0 := cell_of fb 0; have k1 := cell_of fb 1; have k2 := cell_of fb 2; have k3 := cell_of fb 3; have k4 := cell_of fb 4; have lb := lt_of_heap fb; simp only [List.getElem?_toArray, List.getElem?_cons_zero, List.getElem?_cons_succ] at k0 k1 k2 k3 k4; clear fb
  go_wp2_with fail
  refine (reads_c h _).mono ?_
  rw [hl]
  rintro e w2 ⟨v, rfl, hR, hb⟩
  replace hh := hh.more (up_below (Upd.refl [] _) hb) (Kd_row hR) (fun _ hb => hb)
  clear hb hR
  obtain ⟨A, c, rfl, -⟩ := hh.row
  rw [List.length_map] at hh
  clear k0 k1 k2 k3 k4 lb
  have fb := hh.blk (b := w.heap.size) (o := Obj.cells #[.int .u8 op, .int .u8 D, .int .u8 S, .int .i16 O, .int .i32 M] 24 (0, 0)) (by simp); have k0 := cell_of fb 0; have k1 := cell_of fb 1; have k2 := cell_of fb 2; have k3 := cell_of fb 3; have k4 := cell_of fb 4; have lb := lt_of_heap fb; simp only [List.getElem?_toArray, List.getElem?_cons_zero, List.getElem?_cons_succ] at k0 k1 k2 k3 k4; clear fb
  go_wp2_with fail
  refine (writes_c h _).mono ?_
  rw [hw]
  rintro e w3 ⟨rfl, hb⟩
  replace hh := hh.upd (up_below (Upd.refl [] _) hb)
  clear hb
  clear k0 k1 k2 k3 k4 lb
  have fb := hh.blk (b := w.heap.size) (o := Obj.cells #[.int .u8 op, .int .u8 D, .int .u8 S, .int .i16 O, .int .i32 M] 24 (0, 0)) (by simp); have k0 := cell_of fb 0; have k1 := cell_of fb 1; have k2 := cell_of fb 2; have k3 := cell_of fb 3; have k4 := cell_of fb 4; have lb := lt_of_heap fb; simp only [List.getElem?_toArray, List.getElem?_cons_zero, List.getElem?_cons_succ] at k0 k1 k2 k3 k4; clear fb
  go_wp2_with fail
  refine (size_c h _).mono ?_
  rw [hn]
  rintro e w4 ⟨rfl, hb⟩
  replace hh := hh.upd (up_below (Upd.refl [] _) hb)
  clear hb
  clear k0 k1 k2 k3 k4 lb
  have fb := hh.blk (b := w.heap.size) (o := Obj.cells #[.int .u8 op, .int .u8 D, .int .u8 S, .int .i16 O, .int .i32 M] 24 (0, 0)) (by simp); have k0 := cell_of fb 0; have k1 := cell_of fb 1; have k2 := cell_of fb 2; have k3 := cell_of fb 3; have k4 := cell_of fb 4; have lb := lt_of_heap fb; simp only [List.getElem?_toArray, List.getElem?_cons_zero, List.getElem?_cons_succ] at k0 k1 k2 k3 k4; clear fb
  go_wp2_with fail
  go_loopg [8] l.length (fun kq v8 w' => ∃ i : Nat, v8 = .int .i64 (i : Int) ∧ kq + i = l.length ∧ SepK w w' [(w.heap.size, Obj.cells #[.int .u8 op, .int .u8 D, .int .u8 S, .int .i16 O, .int .i32 M] 24 (0, 0))] (star (rowR 5 1 (.slice A l.length c) (l.map enc8)) emp))
  case atStart => exact ⟨0, rfl, rfl, hh⟩
  case round =>
    clear hh
    clear k0 k1 k2 k3 k4 lb
    obtain ⟨i, rfl, hk2, hh⟩ := hrel
    by_cases hi : i < l.length
    · have z1 : decide ((i : Int) < (l.length : Int)) = true := decide_eq_true (by omega)
      obtain ⟨x, hx⟩ : ∃ x, l[i]? = some x := ⟨l[i], List.getElem?_eq_getElem hi⟩
      have y1 : decide (11 ≤ x) = false := decide_eq_false (by have := hl1 i x hx; omega)
      obtain ⟨A8, c8, e8, hr8⟩ := hh.row
      rw [List.length_map] at e8
      cases e8
      obtain ⟨b, off, rfl, q0⟩ := row8_cell hr8 hx
      have g0 : (0 : Int) ≤ (i : Int) := by omega
      have g1 : (i : Int) < (l.length : Int) := by omega
      by_cases i0 : i = 0
      · subst i0
        clear hr8
        rw [Nat.add_zero] at q0
        go_upto_region 10 with fail
        go_quiet (fail)
        go_wp2_with fail
        go_roundg (gk - 1)
        case measure => omega
        case rel => exact ⟨1, by go_num, by omega, hh.upd ((Upd.refl [] _).drewN _)⟩
      · have i1 : i = 1 := by omega
        obtain ⟨y, hy⟩ : ∃ y, l[0]? = some y := ⟨l[0], List.getElem?_eq_getElem (by omega)⟩
        obtain ⟨b', off', e', q1⟩ := row8_cell hr8 hy
        cases e'
        have y2 : decide (x ≤ y) = false := decide_eq_false (by have := hl2 y x hy (by rw [← i1]; exact hx); omega)
        have y3 : decide (0 < (i : Int)) = true := decide_eq_true (by omega)
        have y3n : 0 < i := by omega
        have y4 : IntKind.i64.wrap ((i : Int) - 1) = 0 := by rw [i1]; decide
        have hi1 : Unit → i = 1 := fun _ => i1
        have g2 : (0 : Int) < (l.length : Int) := by omega
        clear hr8 i1 i0
        rw [Nat.add_zero] at q1
        go_upto_region 10 with fail
        go_quiet (fail)
        go_wp2_with fail
        go_roundg (gk - 1)
        case measure => omega
        case rel => exact ⟨i + 1, by go_num, by omega, hh.upd ((Upd.refl [] _).drewN _)⟩
    · have z1 : decide ((i : Int) < (l.length : Int)) = false := decide_eq_false (by omega)
      have fb := hh.blk (b := w.heap.size) (o := Obj.cells #[.int .u8 op, .int .u8 D, .int .u8 S, .int .i16 O, .int .i32 M] 24 (0, 0)) (by simp); have k0 := cell_of fb 0; have k1 := cell_of fb 1; have k2 := cell_of fb 2; have k3 := cell_of fb 3; have k4 := cell_of fb 4; have lb := lt_of_heap fb; simp only [List.getElem?_toArray, List.getElem?_cons_zero, List.getElem?_cons_succ] at k0 k1 k2 k3 k4; clear fb
      go_wp2_with (first | (go_at_call 25; refine (wide_c h _).mono ?_; rw [hwd]; rintro e w5 ⟨rfl, hb⟩; replace hh := hh.upd (up_below (Upd.refl [] _) hb); clear hb; clear k0 k1 k2 k3 k4 lb; have fb := hh.blk (b := w.heap.size) (o := Obj.cells #[.int .u8 op, .int .u8 D, .int .u8 S, .int .i16 O, .int .i32 M] 24 (0, 0)) (by simp); have k0 := cell_of fb 0; have k1 := cell_of fb 1; have k2 := cell_of fb 2; have k3 := cell_of fb 3; have k4 := cell_of fb 4; have lb := lt_of_heap fb; simp only [List.getElem?_toArray, List.getElem?_cons_zero, List.getElem?_cons_succ] at k0 k1 k2 k3 k4; clear fb) | (go_at_call 14; refine (alive_c _).mono ?_; rintro e w6 ⟨rfl, hb⟩; replace hh := hh.upd (up_below (Upd.refl [] _) hb); clear hb))
      go_ret
      exact ⟨rfl, hh.u⟩

theorem reads_facts (op D S O M : Int) (h : InsnOk op D S O M) (hd : D < 11) (hs : S < 11) : (∀ (i : Nat) (x : Int), (readsF op D S O M)[i]? = some x → x < 11) ∧ ∀ x y, (readsF op D S O M)[0]? = some x → (readsF op D S O M)[1]? = some y → x < y := by
  have two : (∀ (i : Nat) (x : Int), (two8 D S)[i]? = some x → x < 11) ∧ ∀ x y, (two8 D S)[0]? = some x → (two8 D S)[1]? = some y → x < y := by
    unfold two8
    split
    · constructor
      · intro i x hx
        rcases i with _ | i <;> simp at hx
        omega
      · intro x y _ hy
        simp at hy
    · split
      · constructor
        · intro i x hx
          rcases i with _ | _ | i <;> simp at hx <;> omega
        · intro x y hx hy
          simp at hx hy
          omega
      · constructor
        · intro i x hx
          rcases i with _ | _ | i <;> simp at hx <;> omega
        · intro x y hx hy
          simp at hx hy
          omega
  have one : ∀ a : Int, a < 11 → (∀ (i : Nat) (x : Int), ([a] : List Int)[i]? = some x → x < 11) ∧ ∀ x y, ([a] : List Int)[0]? = some x → ([a] : List Int)[1]? = some y → x < y := fun a ha => by
    constructor
    · intro i x hx
      rcases i with _ | i <;> simp at hx
      omega
    · intro x y _ hy
      simp at hy
  have nil : (∀ (i : Nat) (x : Int), ([] : List Int)[i]? = some x → x < 11) ∧ ∀ x y, ([] : List Int)[0]? = some x → ([] : List Int)[1]? = some y → x < y := by
    constructor
    · intro i x hx; simp at hx
    · intro x y hx; simp at hx
  unfold readsF
  split
  · unfold readsL
    split <;> cases xB op <;> simp only [if_true, Bool.false_eq_true, if_false, regsL]
    · exact one D hd
    · exact two
    · exact nil
    · exact one S hs
  split
  · exact one S hs
  split
  · exact one D hd
  split
  · exact two
  split
  · exact one 0 (by decide)
  · exact nil
theorem szF_cases (x : Int) : szF x = 1 ∨ szF x = 2 ∨ szF x = 4 ∨ szF x = 8 := by
  unfold szF
  split
  · simp
  split
  · simp
  split <;> simp
include h in
theorem sound_walk : Calls Try.prog 6 #[.agg #[.int .u8 op, .int .u8 D, .int .u8 S, .int .i16 O, .int .i32 M]] w fun e w' => e = .returned (.bool true) ∧ Upd [] w w' := by
  have hlen := readsF_len op D S O M
  rcases kind_cases op D S O M h with hk | ⟨hd, hs, hk⟩
  · exact sound_0_0_f h w hk [] (by simp [readsF, hk]) (by simp) (fun i x hx => by simp at hx) (fun x y hx => by simp at hx) (by simp [writesF, hk]) (by simp [sizeF, hk]) (by simp [wideF, hk]) rfl
  obtain ⟨r1, r2⟩ := reads_facts op D S O M h hd hs
  have hz := szF_cases (op / 8 % 4)
  rcases hk with hk | hk | hk | hk | hk | hk | hk | ⟨hD, hk | hk | hk⟩
  · cases hwd : wideF op D S O M
    · exact sound_5_0_f h w hk _ rfl hlen r1 r2 (by simp [writesF, hk]) (by simp [sizeF, hk]) hwd hd hs
    · exact sound_5_0_t h w hk _ rfl hlen r1 r2 (by simp [writesF, hk]) (by simp [sizeF, hk]) hwd hd hs
  · exact sound_6_0_f h w hk _ rfl hlen r1 r2 (by simp [writesF, hk]) (by simp [sizeF, hk]) (by simp [wideF, hk]) hd hs
  · exact sound_7_0_f h w hk _ rfl hlen r1 r2 (by simp [writesF, hk]) (by simp [sizeF, hk]) (by simp [wideF, hk]) hd hs
  · exact sound_8_0_f h w hk _ rfl hlen r1 r2 (by simp [writesF, hk]) (by simp [sizeF, hk]) (by simp [wideF, hk]) hd hs
  · exact sound_10_0_f h w hk _ rfl hlen r1 r2 (by simp [writesF, hk]) (by simp [sizeF, hk]) (by simp [wideF, hk]) hd hs
  · have hsz : sizeF op D S O M = szF (op / 8 % 4) := by simp [sizeF, hk]
    rcases hz with hz | hz | hz | hz
    · exact sound_3_1_f h w hk _ rfl hlen r1 r2 (by simp [writesF, hk]) (hsz.trans hz) (by simp [wideF, hk]) hd hs
    · exact sound_3_2_f h w hk _ rfl hlen r1 r2 (by simp [writesF, hk]) (hsz.trans hz) (by simp [wideF, hk]) hd hs
    · exact sound_3_4_f h w hk _ rfl hlen r1 r2 (by simp [writesF, hk]) (hsz.trans hz) (by simp [wideF, hk]) hd hs
    · exact sound_3_8_f h w hk _ rfl hlen r1 r2 (by simp [writesF, hk]) (hsz.trans hz) (by simp [wideF, hk]) hd hs
  · have hsz : sizeF op D S O M = szF (op / 8 % 4) := by simp [sizeF, hk]
    rcases hz with hz | hz | hz | hz
    · exact sound_4_1_f h w hk _ rfl hlen r1 r2 (by simp [writesF, hk]) (hsz.trans hz) (by simp [wideF, hk]) hd hs
    · exact sound_4_2_f h w hk _ rfl hlen r1 r2 (by simp [writesF, hk]) (hsz.trans hz) (by simp [wideF, hk]) hd hs
    · exact sound_4_4_f h w hk _ rfl hlen r1 r2 (by simp [writesF, hk]) (hsz.trans hz) (by simp [wideF, hk]) hd hs
    · exact sound_4_8_f h w hk _ rfl hlen r1 r2 (by simp [writesF, hk]) (hsz.trans hz) (by simp [wideF, hk]) hd hs
  · cases hwd : wideF op D S O M
    · exact sound_1_0_f h w hk _ rfl hlen r1 r2 (by simp [writesF, hk]) (by simp [sizeF, hk]) hwd hD hd hs
    · exact sound_1_0_t h w hk _ rfl hlen r1 r2 (by simp [writesF, hk]) (by simp [sizeF, hk]) hwd hD hd hs
  · have hsz : sizeF op D S O M = szF (op / 8 % 4) := by simp [sizeF, hk]
    rcases hz with hz | hz | hz | hz
    · exact sound_2_1_f h w hk _ rfl hlen r1 r2 (by simp [writesF, hk]) (hsz.trans hz) (by simp [wideF, hk]) hD hd hs
    · exact sound_2_2_f h w hk _ rfl hlen r1 r2 (by simp [writesF, hk]) (hsz.trans hz) (by simp [wideF, hk]) hD hd hs
    · exact sound_2_4_f h w hk _ rfl hlen r1 r2 (by simp [writesF, hk]) (hsz.trans hz) (by simp [wideF, hk]) hD hd hs
    · exact sound_2_8_f h w hk _ rfl hlen r1 r2 (by simp [writesF, hk]) (hsz.trans hz) (by simp [wideF, hk]) hD hd hs
  · exact sound_9_0_f h w hk _ rfl hlen r1 r2 (by simp [writesF, hk]) (by simp [sizeF, hk]) (by simp [wideF, hk]) hD hd hs
end
end Go.Proofs.Ytibghcmkmbamjaa.PI
