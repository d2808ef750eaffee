-- turned from the kit's print
import Derived.Test.YtibghcmkmbamjaaGPI
namespace Go.Proofs.Ytibghcmkmbamjaa.PI
open Go.RowKit Go.Proofs.YtibghcmkmbamjaaW.PrintWords Go.Proofs.YtibghcmkmbamjaaW.PrintLast Go.Proofs.YtibghcmkmbamjaaW.PrintMore
attribute [local go_sem] max2_int min2_int max_two min_two max_three min_three max_four min_four   -- for this text's walks alone
set_option linter.unusedVariables false
set_option linter.unusedSimpArgs false

/-! ### wardenref07_is: function 56 -/
def wardenref07_is.f (a0_0 : Int) (a0_1 : Int) (a0_2 : Int) (a0_3 : Int) (a0_4 : Int) (a1 : Bool) (a2 : Bool) (a3 : Bool) (a4 : Bool) : Option (Bool) := if a1 = true then (if a2 = true then (if a3 = true then (if a4 = true then (if a0_1 < 11 then (some (decide (a0_2 < 11))) else (some false)) else (if a0_4 = 0 then (if a0_1 < 11 then (some (decide (a0_2 < 11))) else (some false)) else (some false))) else (if a0_3 = 0 then (if a4 = true then (if a0_1 < 11 then (some (decide (a0_2 < 11))) else (some false)) else (if a0_4 = 0 then (if a0_1 < 11 then (some (decide (a0_2 < 11))) else (some false)) else (some false))) else (some false))) else (if a0_2 = 0 then (if a3 = true then (if a4 = true then (if a0_1 < 11 then (some (decide (a0_2 < 11))) else (some false)) else (if a0_4 = 0 then (if a0_1 < 11 then (some (decide (a0_2 < 11))) else (some false)) else (some false))) else (if a0_3 = 0 then (if a4 = true then (if a0_1 < 11 then (some (decide (a0_2 < 11))) else (some false)) else (if a0_4 = 0 then (if a0_1 < 11 then (some (decide (a0_2 < 11))) else (some false)) else (some false))) else (some false))) else (some false))) else (if a0_1 = 0 then (if a2 = true then (if a3 = true then (if a4 = true then (if a0_1 < 11 then (some (decide (a0_2 < 11))) else (some false)) else (if a0_4 = 0 then (if a0_1 < 11 then (some (decide (a0_2 < 11))) else (some false)) else (some false))) else (if a0_3 = 0 then (if a4 = true then (if a0_1 < 11 then (some (decide (a0_2 < 11))) else (some false)) else (if a0_4 = 0 then (if a0_1 < 11 then (some (decide (a0_2 < 11))) else (some false)) else (some false))) else (some false))) else (if a0_2 = 0 then (if a3 = true then (if a4 = true then (if a0_1 < 11 then (some (decide (a0_2 < 11))) else (some false)) else (if a0_4 = 0 then (if a0_1 < 11 then (some (decide (a0_2 < 11))) else (some false)) else (some false))) else (if a0_3 = 0 then (if a4 = true then (if a0_1 < 11 then (some (decide (a0_2 < 11))) else (some false)) else (if a0_4 = 0 then (if a0_1 < 11 then (some (decide (a0_2 < 11))) else (some false)) else (some false))) else (some false))) else (some false))) else (some false))
def usB (d s o m : Bool) (D S O M : Int) : Bool := (d || D == 0) && (s || S == 0) && (o || O == 0) && (m || M == 0) && decide (D < 11) && decide (S < 11)
theorem is_eq (op D S O M : Int) (d s o m : Bool) : wardenref07_is.f op D S O M d s o m = some (usB d s o m D S O M) := by
  unfold wardenref07_is.f usB
  cases d <;> cases s <;> cases o <;> cases m <;> by_cases h1 : D = 0 <;> by_cases h2 : S = 0 <;> by_cases h3 : O = 0 <;> by_cases h4 : M = 0 <;> by_cases h5 : D < 11 <;> simp [h1, h2, h3, h4, h5]
set_option maxHeartbeats 8000000 in
set_option maxRecDepth 100000 in
theorem is_walk (op D S O M : Int) (d s o m : Bool) (w : World) :
    Calls Try.prog 56 #[.agg #[.int .u8 op, .int .u8 D, .int .u8 S, .int .i16 O, .int .i32 M], .bool d, .bool s, .bool o, .bool m] w fun e w' => e = .returned (.bool (usB d s o m D S O M)) ∧ Below w.heap.size w w' := by
  have hB := pa (Below.refl w.heap.size w) (.cells #[.int .u8 op, .int .u8 D, .int .u8 S, .int .i16 O, .int .i32 M] 24)
  · cases d
    · cases z0 : (D == 0)
      · have e : usB false s o m D S O M = false := by simp [usB, z0]
        rw [e]; clear e
        go_enter Try.func56, Try.ntmps56; go_wp2_with fail
        go_ret; exact ⟨rfl, hB⟩
      · cases s
        · cases z1 : (S == 0)
          · have e : usB false false o m D S O M = false := by simp [usB, z0, z1]
            rw [e]; clear e
            go_enter Try.func56, Try.ntmps56; go_wp2_with fail
            go_ret; exact ⟨rfl, hB⟩
          · cases o
            · cases z2 : (O == 0)
              · have e : usB false false false m D S O M = false := by simp [usB, z0, z1, z2]
                rw [e]; clear e
                go_enter Try.func56, Try.ntmps56; go_wp2_with fail
                go_ret; exact ⟨rfl, hB⟩
              · cases m
                · cases z3 : (M == 0)
                  · have e : usB false false false false D S O M = false := by simp [usB, z0, z1, z2, z3]
                    rw [e]; clear e
                    go_enter Try.func56, Try.ntmps56; go_wp2_with fail
                    go_ret; exact ⟨rfl, hB⟩
                  · by_cases h5 : D < 11
                    · have z5 : decide (D < 11) = true := decide_eq_true h5; clear h5
                      · have e : usB false false false false D S O M = decide (S < 11) := by simp [usB, z0, z1, z2, z3, z5]
                        rw [e]; clear e
                        go_enter Try.func56, Try.ntmps56; go_wp2_with fail
                        go_ret; exact ⟨rfl, hB⟩
                    · have z5 : decide (D < 11) = false := decide_eq_false h5; clear h5
                      · have e : usB false false false false D S O M = false := by simp [usB, z0, z1, z2, z3, z5]
                        rw [e]; clear e
                        go_enter Try.func56, Try.ntmps56; go_wp2_with fail
                        go_ret; exact ⟨rfl, hB⟩
                · by_cases h5 : D < 11
                  · have z5 : decide (D < 11) = true := decide_eq_true h5; clear h5
                    · have e : usB false false false true D S O M = decide (S < 11) := by simp [usB, z0, z1, z2, z5]
                      rw [e]; clear e
                      go_enter Try.func56, Try.ntmps56; go_wp2_with fail
                      go_ret; exact ⟨rfl, hB⟩
                  · have z5 : decide (D < 11) = false := decide_eq_false h5; clear h5
                    · have e : usB false false false true D S O M = false := by simp [usB, z0, z1, z2, z5]
                      rw [e]; clear e
                      go_enter Try.func56, Try.ntmps56; go_wp2_with fail
                      go_ret; exact ⟨rfl, hB⟩
            · cases m
              · cases z3 : (M == 0)
                · have e : usB false false true false D S O M = false := by simp [usB, z0, z1, z3]
                  rw [e]; clear e
                  go_enter Try.func56, Try.ntmps56; go_wp2_with fail
                  go_ret; exact ⟨rfl, hB⟩
                · by_cases h5 : D < 11
                  · have z5 : decide (D < 11) = true := decide_eq_true h5; clear h5
                    · have e : usB false false true false D S O M = decide (S < 11) := by simp [usB, z0, z1, z3, z5]
                      rw [e]; clear e
                      go_enter Try.func56, Try.ntmps56; go_wp2_with fail
                      go_ret; exact ⟨rfl, hB⟩
                  · have z5 : decide (D < 11) = false := decide_eq_false h5; clear h5
                    · have e : usB false false true false D S O M = false := by simp [usB, z0, z1, z3, z5]
                      rw [e]; clear e
                      go_enter Try.func56, Try.ntmps56; go_wp2_with fail
                      go_ret; exact ⟨rfl, hB⟩
              · by_cases h5 : D < 11
                · have z5 : decide (D < 11) = true := decide_eq_true h5; clear h5
                  · have e : usB false false true true D S O M = decide (S < 11) := by simp [usB, z0, z1, z5]
                    rw [e]; clear e
                    go_enter Try.func56, Try.ntmps56; go_wp2_with fail
                    go_ret; exact ⟨rfl, hB⟩
                · have z5 : decide (D < 11) = false := decide_eq_false h5; clear h5
                  · have e : usB false false true true D S O M = false := by simp [usB, z0, z1, z5]
                    rw [e]; clear e
                    go_enter Try.func56, Try.ntmps56; go_wp2_with fail
                    go_ret; exact ⟨rfl, hB⟩
        · cases o
          · cases z2 : (O == 0)
            · have e : usB false true false m D S O M = false := by simp [usB, z0, z2]
              rw [e]; clear e
              go_enter Try.func56, Try.ntmps56; go_wp2_with fail
              go_ret; exact ⟨rfl, hB⟩
            · cases m
              · cases z3 : (M == 0)
                · have e : usB false true false false D S O M = false := by simp [usB, z0, z2, z3]
                  rw [e]; clear e
                  go_enter Try.func56, Try.ntmps56; go_wp2_with fail
                  go_ret; exact ⟨rfl, hB⟩
                · by_cases h5 : D < 11
                  · have z5 : decide (D < 11) = true := decide_eq_true h5; clear h5
                    · have e : usB false true false false D S O M = decide (S < 11) := by simp [usB, z0, z2, z3, z5]
                      rw [e]; clear e
                      go_enter Try.func56, Try.ntmps56; go_wp2_with fail
                      go_ret; exact ⟨rfl, hB⟩
                  · have z5 : decide (D < 11) = false := decide_eq_false h5; clear h5
                    · have e : usB false true false false D S O M = false := by simp [usB, z0, z2, z3, z5]
                      rw [e]; clear e
                      go_enter Try.func56, Try.ntmps56; go_wp2_with fail
                      go_ret; exact ⟨rfl, hB⟩
              · by_cases h5 : D < 11
                · have z5 : decide (D < 11) = true := decide_eq_true h5; clear h5
                  · have e : usB false true false true D S O M = decide (S < 11) := by simp [usB, z0, z2, z5]
                    rw [e]; clear e
                    go_enter Try.func56, Try.ntmps56; go_wp2_with fail
                    go_ret; exact ⟨rfl, hB⟩
                · have z5 : decide (D < 11) = false := decide_eq_false h5; clear h5
                  · have e : usB false true false true D S O M = false := by simp [usB, z0, z2, z5]
                    rw [e]; clear e
                    go_enter Try.func56, Try.ntmps56; go_wp2_with fail
                    go_ret; exact ⟨rfl, hB⟩
          · cases m
            · cases z3 : (M == 0)
              · have e : usB false true true false D S O M = false := by simp [usB, z0, z3]
                rw [e]; clear e
                go_enter Try.func56, Try.ntmps56; go_wp2_with fail
                go_ret; exact ⟨rfl, hB⟩
              · by_cases h5 : D < 11
                · have z5 : decide (D < 11) = true := decide_eq_true h5; clear h5
                  · have e : usB false true true false D S O M = decide (S < 11) := by simp [usB, z0, z3, z5]
                    rw [e]; clear e
                    go_enter Try.func56, Try.ntmps56; go_wp2_with fail
                    go_ret; exact ⟨rfl, hB⟩
                · have z5 : decide (D < 11) = false := decide_eq_false h5; clear h5
                  · have e : usB false true true false D S O M = false := by simp [usB, z0, z3, z5]
                    rw [e]; clear e
                    go_enter Try.func56, Try.ntmps56; go_wp2_with fail
                    go_ret; exact ⟨rfl, hB⟩
            · by_cases h5 : D < 11
              · have z5 : decide (D < 11) = true := decide_eq_true h5; clear h5
                · have e : usB false true true true D S O M = decide (S < 11) := by simp [usB, z0, z5]
                  rw [e]; clear e
                  go_enter Try.func56, Try.ntmps56; go_wp2_with fail
                  go_ret; exact ⟨rfl, hB⟩
              · have z5 : decide (D < 11) = false := decide_eq_false h5; clear h5
                · have e : usB false true true true D S O M = false := by simp [usB, z0, z5]
                  rw [e]; clear e
                  go_enter Try.func56, Try.ntmps56; go_wp2_with fail
                  go_ret; exact ⟨rfl, hB⟩
    · cases s
      · cases z1 : (S == 0)
        · have e : usB true false o m D S O M = false := by simp [usB, z1]
          rw [e]; clear e
          go_enter Try.func56, Try.ntmps56; go_wp2_with fail
          go_ret; exact ⟨rfl, hB⟩
        · cases o
          · cases z2 : (O == 0)
            · have e : usB true false false m D S O M = false := by simp [usB, z1, z2]
              rw [e]; clear e
              go_enter Try.func56, Try.ntmps56; go_wp2_with fail
              go_ret; exact ⟨rfl, hB⟩
            · cases m
              · cases z3 : (M == 0)
                · have e : usB true false false false D S O M = false := by simp [usB, z1, z2, z3]
                  rw [e]; clear e
                  go_enter Try.func56, Try.ntmps56; go_wp2_with fail
                  go_ret; exact ⟨rfl, hB⟩
                · by_cases h5 : D < 11
                  · have z5 : decide (D < 11) = true := decide_eq_true h5; clear h5
                    · have e : usB true false false false D S O M = decide (S < 11) := by simp [usB, z1, z2, z3, z5]
                      rw [e]; clear e
                      go_enter Try.func56, Try.ntmps56; go_wp2_with fail
                      go_ret; exact ⟨rfl, hB⟩
                  · have z5 : decide (D < 11) = false := decide_eq_false h5; clear h5
                    · have e : usB true false false false D S O M = false := by simp [usB, z1, z2, z3, z5]
                      rw [e]; clear e
                      go_enter Try.func56, Try.ntmps56; go_wp2_with fail
                      go_ret; exact ⟨rfl, hB⟩
              · by_cases h5 : D < 11
                · have z5 : decide (D < 11) = true := decide_eq_true h5; clear h5
                  · have e : usB true false false true D S O M = decide (S < 11) := by simp [usB, z1, z2, z5]
                    rw [e]; clear e
                    go_enter Try.func56, Try.ntmps56; go_wp2_with fail
                    go_ret; exact ⟨rfl, hB⟩
                · have z5 : decide (D < 11) = false := decide_eq_false h5; clear h5
                  · have e : usB true false false true D S O M = false := by simp [usB, z1, z2, z5]
                    rw [e]; clear e
                    go_enter Try.func56, Try.ntmps56; go_wp2_with fail
                    go_ret; exact ⟨rfl, hB⟩
          · cases m
            · cases z3 : (M == 0)
              · have e : usB true false true false D S O M = false := by simp [usB, z1, z3]
                rw [e]; clear e
                go_enter Try.func56, Try.ntmps56; go_wp2_with fail
                go_ret; exact ⟨rfl, hB⟩
              · by_cases h5 : D < 11
                · have z5 : decide (D < 11) = true := decide_eq_true h5; clear h5
                  · have e : usB true false true false D S O M = decide (S < 11) := by simp [usB, z1, z3, z5]
                    rw [e]; clear e
                    go_enter Try.func56, Try.ntmps56; go_wp2_with fail
                    go_ret; exact ⟨rfl, hB⟩
                · have z5 : decide (D < 11) = false := decide_eq_false h5; clear h5
                  · have e : usB true false true false D S O M = false := by simp [usB, z1, z3, z5]
                    rw [e]; clear e
                    go_enter Try.func56, Try.ntmps56; go_wp2_with fail
                    go_ret; exact ⟨rfl, hB⟩
            · by_cases h5 : D < 11
              · have z5 : decide (D < 11) = true := decide_eq_true h5; clear h5
                · have e : usB true false true true D S O M = decide (S < 11) := by simp [usB, z1, z5]
                  rw [e]; clear e
                  go_enter Try.func56, Try.ntmps56; go_wp2_with fail
                  go_ret; exact ⟨rfl, hB⟩
              · have z5 : decide (D < 11) = false := decide_eq_false h5; clear h5
                · have e : usB true false true true D S O M = false := by simp [usB, z1, z5]
                  rw [e]; clear e
                  go_enter Try.func56, Try.ntmps56; go_wp2_with fail
                  go_ret; exact ⟨rfl, hB⟩
      · cases o
        · cases z2 : (O == 0)
          · have e : usB true true false m D S O M = false := by simp [usB, z2]
            rw [e]; clear e
            go_enter Try.func56, Try.ntmps56; go_wp2_with fail
            go_ret; exact ⟨rfl, hB⟩
          · cases m
            · cases z3 : (M == 0)
              · have e : usB true true false false D S O M = false := by simp [usB, z2, z3]
                rw [e]; clear e
                go_enter Try.func56, Try.ntmps56; go_wp2_with fail
                go_ret; exact ⟨rfl, hB⟩
              · by_cases h5 : D < 11
                · have z5 : decide (D < 11) = true := decide_eq_true h5; clear h5
                  · have e : usB true true false false D S O M = decide (S < 11) := by simp [usB, z2, z3, z5]
                    rw [e]; clear e
                    go_enter Try.func56, Try.ntmps56; go_wp2_with fail
                    go_ret; exact ⟨rfl, hB⟩
                · have z5 : decide (D < 11) = false := decide_eq_false h5; clear h5
                  · have e : usB true true false false D S O M = false := by simp [usB, z2, z3, z5]
                    rw [e]; clear e
                    go_enter Try.func56, Try.ntmps56; go_wp2_with fail
                    go_ret; exact ⟨rfl, hB⟩
            · by_cases h5 : D < 11
              · have z5 : decide (D < 11) = true := decide_eq_true h5; clear h5
                · have e : usB true true false true D S O M = decide (S < 11) := by simp [usB, z2, z5]
                  rw [e]; clear e
                  go_enter Try.func56, Try.ntmps56; go_wp2_with fail
                  go_ret; exact ⟨rfl, hB⟩
              · have z5 : decide (D < 11) = false := decide_eq_false h5; clear h5
                · have e : usB true true false true D S O M = false := by simp [usB, z2, z5]
                  rw [e]; clear e
                  go_enter Try.func56, Try.ntmps56; go_wp2_with fail
                  go_ret; exact ⟨rfl, hB⟩
        · cases m
          · cases z3 : (M == 0)
            · have e : usB true true true false D S O M = false := by simp [usB, z3]
              rw [e]; clear e
              go_enter Try.func56, Try.ntmps56; go_wp2_with fail
              go_ret; exact ⟨rfl, hB⟩
            · by_cases h5 : D < 11
              · have z5 : decide (D < 11) = true := decide_eq_true h5; clear h5
                · have e : usB true true true false D S O M = decide (S < 11) := by simp [usB, z3, z5]
                  rw [e]; clear e
                  go_enter Try.func56, Try.ntmps56; go_wp2_with fail
                  go_ret; exact ⟨rfl, hB⟩
              · have z5 : decide (D < 11) = false := decide_eq_false h5; clear h5
                · have e : usB true true true false D S O M = false := by simp [usB, z3, z5]
                  rw [e]; clear e
                  go_enter Try.func56, Try.ntmps56; go_wp2_with fail
                  go_ret; exact ⟨rfl, hB⟩
          · by_cases h5 : D < 11
            · have z5 : decide (D < 11) = true := decide_eq_true h5; clear h5
              · have e : usB true true true true D S O M = decide (S < 11) := by simp [usB, z5]
                rw [e]; clear e
                go_enter Try.func56, Try.ntmps56; go_wp2_with fail
                go_ret; exact ⟨rfl, hB⟩
            · have z5 : decide (D < 11) = false := decide_eq_false h5; clear h5
              · have e : usB true true true true D S O M = false := by simp [usB, z5]
                rw [e]; clear e
                go_enter Try.func56, Try.ntmps56; go_wp2_with fail
                go_ret; exact ⟨rfl, hB⟩
theorem wardenref07_is.calls (a0_0 : Int) (a0_1 : Int) (a0_2 : Int) (a0_3 : Int) (a0_4 : Int) (a1 : Bool) (a2 : Bool) (a3 : Bool) (a4 : Bool) (r : Bool) (w : World) (h : wardenref07_is.f a0_0 a0_1 a0_2 a0_3 a0_4 a1 a2 a3 a4 = some r) :
  Calls Try.prog 56 #[.agg #[.int .u8 a0_0, .int .u8 a0_1, .int .u8 a0_2, .int .i16 a0_3, .int .i32 a0_4], .bool a1, .bool a2, .bool a3, .bool a4] w fun e w' => e = .returned (.bool r) ∧ Below w.heap.size w w' := by
  rw [is_eq] at h
  cases h
  exact is_walk _ _ _ _ _ _ _ _ _ w

/-! ### wardenref07_asks: function 96 -/
def wardenref07_asks.f (a0 : Int) : Option (Bool) := if a0 ≥ 1 then (if a0 ≤ 13 then (if a0 = 8 then (some false) else (some (a0 != 9))) else (some false)) else (some false)
set_option maxHeartbeats 8000000 in
set_option maxRecDepth 100000 in
theorem wardenref07_asks.calls (a0 : Int) (r : Bool) (w : World) (h : wardenref07_asks.f a0 = some r) :
  Calls Try.prog 96 #[.int .u8 a0] w fun e w' => e = .returned (.bool r) ∧ Drawn0 w w' := by
 have H : (if a0 ≥ 1 then (if a0 ≤ 13 then (if a0 = 8 then (some false) else (some (a0 != 9))) else (some false)) else (some false)) = some r := h
 clear h
 by_cases c2 : a0 ≥ 1
 ·rw [if_pos c2] at H
  have c2b0 : decide (1 ≤ a0) = true := decide_eq_true c2
  clear c2
  by_cases c3 : a0 ≤ 13
  ·rw [if_pos c3] at H
   have c3b0 : decide (a0 ≤ 13) = true := decide_eq_true c3
   clear c3
   by_cases c4 : a0 = 8
   ·rw [if_pos c4] at H
    have c4b0 : (a0 == 8) = true := beq_iff_eq.mpr c4
    have c4b1 : (a0 != 8) = false := bne_eq_false_iff_eq.mpr c4
    clear c4
    obtain rfl := Option.some.inj H
    go_enter Try.func96, Try.ntmps96
    go_wp2
    go_ret
    exact ⟨by first | rfl | (simp; done) | (simp [*]; done), by repeat (first | exact Drawn0.refl _ | apply Drawn0.step)⟩
   ·rw [if_neg c4] at H
    have c4b0 : (a0 == 8) = false := beq_eq_false_iff_ne.mpr c4
    have c4b1 : (a0 != 8) = true := bne_iff_ne.mpr c4
    obtain rfl := Option.some.inj H
    go_enter Try.func96, Try.ntmps96
    go_wp2
    go_ret
    exact ⟨by first | rfl | (simp; done) | (simp [*]; done), by repeat (first | exact Drawn0.refl _ | apply Drawn0.step)⟩
  ·rw [if_neg c3] at H
   have c3b0 : decide (a0 ≤ 13) = false := decide_eq_false c3
   clear c3
   obtain rfl := Option.some.inj H
   go_enter Try.func96, Try.ntmps96
   go_wp2
   go_ret
   exact ⟨by first | rfl | (simp; done) | (simp [*]; done), by repeat (first | exact Drawn0.refl _ | apply Drawn0.step)⟩
 ·rw [if_neg c2] at H
  have c2b0 : decide (1 ≤ a0) = false := decide_eq_false c2
  clear c2
  obtain rfl := Option.some.inj H
  go_enter Try.func96, Try.ntmps96
  go_wp2
  go_ret
  exact ⟨by first | rfl | (simp; done) | (simp [*]; done), by repeat (first | exact Drawn0.refl _ | apply Drawn0.step)⟩

end Go.Proofs.Ytibghcmkmbamjaa.PI
