/- code: whole at subprograms. -/
import Derived.Test.YtibghcmkmbamjaaCAlive
namespace Go.Proofs.Ytibghcmkmbamjaa
open Go.RowKit Go.Shelf
set_option linter.unusedVariables false
set_option linter.unusedSimpArgs false
set_option linter.unusedSectionVars false
section
variable {w : World} {A : Option Addr} {ss : List (Int × Int)}
set_option maxRecDepth 100000 in
set_option maxHeartbeats 4000000 in
theorem whole36 (c : Nat) (n : Nat) (hr : RowsAt w A 2 (ss.map encS)) (hs : ∀ s ∈ ss, 0 ≤ s.1 ∧ s.1 < s.2 ∧ s.2 ≤ (n : Int)) (h0 : 0 < ss.length) (hl : ss.length ≤ 100000) :
    Calls Try.prog 36 #[.slice A ss.length c, .int .i64 (n : Int)] w fun e w' => e = .returned (.bool true) ∧ Upd [] w w' := by
  have z9 : decide ((0 : Int) < (ss.length : Int)) = true := decide_eq_true (by omega)
  have z9n : 0 < ss.length := h0
  go_enter Try.func36, Try.ntmps36
  go_wp2_with fail
  go_loopg [5] ss.length (fun kq v5 w' => ∃ i : Nat, v5 = .int .i64 (i : Int) ∧ kq + i = ss.length ∧ Upd [] w w')
  case atStart => exact ⟨0, rfl, rfl, Upd.refl _ _⟩
  case round =>
    obtain ⟨i, rfl, hk, hU⟩ := hrel
    by_cases hi : i < ss.length
    · have z1 : decide ((i : Int) < (ss.length : Int)) = true := decide_eq_true (by omega)
      obtain ⟨s, hsi⟩ : ∃ s, ss[i]? = some s := ⟨_, List.getElem?_eq_getElem hi⟩
      have hb := hs s (List.mem_of_getElem? hsi)
      obtain ⟨b, o, rfl, k0, k1⟩ := cellS (hr.keep hU) hsi
      have y3 : (0 : Int) ≤ (i : Int) := by omega
      have y4 : (i : Int) < (ss.length : Int) := by omega
      have y5 : IntKind.i64.wrap ((i : Int) + 1) = (i : Int) + 1 := IntWalk.i64_in _ (by omega)
      have q1 : decide (s.1 < 0) = false := decide_eq_false (by omega)
      have q2 : decide ((n : Int) < s.2) = false := decide_eq_false (by omega)
      have q3 : decide (s.2 ≤ s.1) = false := decide_eq_false (by omega)
      clear hsi hb hs
      go_wp2_with fail
      go_quiet (fail)
      go_wp2_with fail
      go_roundg (gk - 1)
      case measure => omega
      case rel => exact ⟨i + 1, by go_num, by omega, hU.drewN _⟩
    · have z1 : decide ((i : Int) < (ss.length : Int)) = false := decide_eq_false (by omega)
      go_wp2_with fail
      go_ret
      exact ⟨rfl, hU⟩
end
end Go.Proofs.Ytibghcmkmbamjaa
