/- What no slab answers; the document's classes. -/
import Derived.Test.YtgleceijdedlkaaWorks12
namespace Go.Proofs.Ytgleceijdedlkaa
open Go.RowKit
set_option linter.unusedVariables false
set_option linter.unusedSimpArgs false
set_option maxRecDepth 100000 in
set_option maxHeartbeats 2000000 in
theorem Take_nil (w : World) (n : Int) : Calls Try.prog 23 #[.pointer none, .int .i64 n] w fun e w' => e = .returned (.tuple #[.int .i64 0, .int .i64 1]) ∧ Upd [] w w' := by
  go_enter Try.func23, Try.ntmps23
  go_wp2_with fail
  go_step3
  go_wp2_with fail
  refine (Class_spec n _).mono ?_
  rintro e w1 ⟨rfl, u1⟩
  go_wp2_with fail
  rw [Exit.noGoto_ret]
  go_ret2
  exact ⟨rfl, u1⟩
theorem of_nil (w : World) (a b c : Int) : Calls Try.prog 65 #[.pointer none, .int .i64 a, .int .i64 b, .int .i64 c] w fun e w' => e = .returned (.tuple #[.slice none 0 0, .int .i64 1]) ∧ w = w' := by
  go_enter Try.func65, Try.ntmps65
  go_wp2
  go_ret2
  exact ⟨rfl, rfl⟩
theorem Read_nil (w : World) (a b c : Int) : Calls Try.prog 26 #[.pointer none, .int .i64 a, .int .i64 b, .int .i64 c] w fun e w' => e = .returned (.tuple #[.string ByteArray.empty, .int .i64 1]) ∧ w = w' := by
  have hcv := conv_nil
  go_enter Try.func26, Try.ntmps26
  go_wp2_with (go_at_call 65; (with_reducible refine (of_nil _ _ _ _).mono ?_); rintro e w1 ⟨rfl, rfl⟩)
  go_ret2
  exact ⟨rfl, rfl⟩
theorem Write_nil (w : World) (a b : Int) (t : ByteArray) (ht : t.size ≤ 9223372036854775807) : Calls Try.prog 24 #[.pointer none, .int .i64 a, .int .i64 b, .string t] w fun e w' => e = .returned (.int .i64 1) ∧ w = w' := by
  have hcv := copy_nil t
  go_enter Try.func24, Try.ntmps24
  go_wp2_with (go_at_call 65; (with_reducible refine (of_nil _ _ _ _).mono ?_); rintro e w1 ⟨rfl, rfl⟩)
  go_ret
  exact ⟨rfl, rfl⟩
theorem Size_nil (w : World) (a : Int) : Calls Try.prog 57 #[.pointer none, .int .i64 a] w fun e w' => e = .returned (.tuple #[.int .i64 0, .bool false]) ∧ w = w' := by
  go_enter Try.func57, Try.ntmps57
  go_wp2_with (go_at_call 65; (with_reducible refine (of_nil _ _ _ _).mono ?_); rintro e w1 ⟨rfl, rfl⟩)
  go_ret2
  exact ⟨rfl, rfl⟩
theorem Give_nil (w : World) (a : Int) : Calls Try.prog 51 #[.pointer none, .int .i64 a] w fun e w' => e = .returned (.int .i64 1) ∧ w = w' := by
  go_enter Try.func51, Try.ntmps51
  go_wp2_with (go_at_call 65; (with_reducible refine (of_nil _ _ _ _).mono ?_); rintro e w1 ⟨rfl, rfl⟩)
  go_ret
  exact ⟨rfl, rfl⟩
theorem Slots_nil (w : World) : Calls Try.prog 52 #[.pointer none] w fun e w' => e = .returned (.slice none 0 0) ∧ w = w' := by
  go_enter Try.func52, Try.ntmps52
  go_wp2
  go_ret
  exact ⟨rfl, rfl⟩
theorem Used_nil (w : World) : Calls Try.prog 50 #[.pointer none] w fun e w' => e = .returned (.int .i64 0) ∧ w = w' := by
  go_enter Try.func50, Try.ntmps50
  go_wp2
  go_ret
  exact ⟨rfl, rfl⟩
theorem Room_nil (w : World) : Calls Try.prog 56 #[.pointer none] w fun e w' => e = .returned (.int .i64 0) ∧ w = w' := by
  go_enter Try.func56, Try.ntmps56
  go_wp2
  go_ret
  exact ⟨rfl, rfl⟩
theorem okc_pos (n : Int) : okc n = decide (0 < cls n) := by
  unfold okc cls
  rw [Bool.eq_iff_iff]
  simp only [Bool.and_eq_true, decide_eq_true_eq]
  repeat split
  all_goals omega
set_option maxRecDepth 100000 in
set_option maxHeartbeats 1000000 in
theorem refClass_spec (n : Int) (w : World) : Calls Try.prog 59 #[.int .i64 n] w fun e w' => e = .returned (.int .i64 (cls n)) ∧ w = w' := by
  by_cases h1 : n < 1
  · have z : decide (n < 1) = true := decide_eq_true h1
    have hc : cls n = 0 := by unfold cls; rw [if_pos h1]
    rw [hc]
    go_enter Try.func59, Try.ntmps59
    go_wp2
    go_ret
    exact ⟨rfl, rfl⟩
  have z : decide (n < 1) = false := decide_eq_false h1
  by_cases h2 : 128 < n
  · have z2 : decide (128 < n) = true := decide_eq_true h2
    have hc : cls n = 0 := by unfold cls; repeat split <;> omega
    rw [hc]
    go_enter Try.func59, Try.ntmps59
    go_wp2
    go_ret
    exact ⟨rfl, rfl⟩
  have z2 : decide (128 < n) = false := decide_eq_false h2
  go_enter Try.func59, Try.ntmps59
  go_wp2
  go_loopg [3] 5 (fun kq v3 w' => ∃ c : Int, v3 = .int .i64 c ∧ ((c = 8 ∧ kq = 5) ∨ (c = 16 ∧ 8 < n ∧ kq = 4) ∨ (c = 32 ∧ 16 < n ∧ kq = 3) ∨ (c = 64 ∧ 32 < n ∧ kq = 2) ∨ (c = 128 ∧ 64 < n ∧ kq = 1)) ∧ w' = w)
  case atStart => exact ⟨8, rfl, .inl ⟨rfl, rfl⟩, rfl⟩
  case round =>
    obtain ⟨c, rfl, hc, rfl⟩ := hrel
    by_cases hlt : c < n
    · have z3 : decide (c < n) = true := decide_eq_true hlt
      have hb : 8 ≤ c ∧ c ≤ 128 := by omega
      obtain ⟨hb1, hb2⟩ := hb
      go_wp2
      go_roundg (gk - 1)
      case measure => omega
      case rel => exact ⟨2 * c, rfl, by omega, rfl⟩
    · have z3 : decide (c < n) = false := decide_eq_false hlt
      have e : cls n = c := by unfold cls; repeat split <;> omega
      go_wp2
      go_ret
      exact ⟨by first | rfl | (rw [e]; rfl), rfl⟩
set_option maxRecDepth 100000 in
set_option maxHeartbeats 2000000 in
theorem slabNone_walk (a b : Int) (w : World) : Calls Try.prog 14 #[.int .i64 a, .int .i64 b] w fun e w' => e = .returned (.bool true) ∧ Upd [] w w' := by
  go_enter Try.func14, Try.ntmps14
  go_wp2_with fail
  refine (Class_spec a _).mono ?_
  rintro e w1 ⟨rfl, u1⟩
  rw [okc_pos]
  go_wp2_with fail
  refine (refClass_spec a _).mono ?_
  rintro e w2 ⟨rfl, rfl⟩
  go_wp2_with fail
  refine (Take_nil _ a).mono ?_
  rintro e w2 ⟨rfl, u2⟩
  have U2 := u1.trans u2
  go_wp2_with fail
  refine (Read_nil _ b 0 1).mono ?_
  rintro e w3 ⟨rfl, rfl⟩
  go_wp2_with fail
  refine (Size_nil _ b).mono ?_
  rintro e w3 ⟨rfl, rfl⟩
  go_wp2_with (first
    | (go_at_call 51; (with_reducible refine (Give_nil _ _).mono ?_); rintro e w3 ⟨rfl, rfl⟩)
    | (go_at_call 24; (with_reducible refine (Write_nil _ _ _ _ (by decide)).mono ?_); rintro e w3 ⟨rfl, rfl⟩)
    | (go_at_call 52; (with_reducible refine (Slots_nil _).mono ?_); rintro e w3 ⟨rfl, rfl⟩)
    | (go_at_call 50; (with_reducible refine (Used_nil _).mono ?_); rintro e w3 ⟨rfl, rfl⟩)
    | (go_at_call 56; (with_reducible refine (Room_nil _).mono ?_); rintro e w3 ⟨rfl, rfl⟩)
    | (go_at_call 21; (with_reducible refine (works12 _).mono ?_); rintro e w4 ⟨rfl, u4⟩))
  go_ret
  exact ⟨rfl, U2.trans u4⟩
end Go.Proofs.Ytgleceijdedlkaa
