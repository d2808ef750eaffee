/- Two lists that are alike: lists, numbers. -/
import Derived.Test.YtagjcnhgappcjaaHSteps
namespace Go.Proofs.Ytagjcnhgappcjaa
open Go.RowKit Go.ChangeShapes Go.WideShapes Go.ChangeAt
set_option linter.unusedVariables false
set_option linter.unusedSimpArgs false
set_option linter.unusedSectionVars false
theorem one_cell {w : World} {A : Option Addr} {l : List (List Value)} {v : Value} (h : RowsAt w A 1 l) {i : Nat} (hi : l[i]? = some [v]) : ∃ b off, A = some ⟨b, off, none⟩ ∧ w.cell? ⟨b, off + i, none⟩ = some v := by
  obtain ⟨b, off, e, hc⟩ := h i _ hi
  exact ⟨b, off, e, by simpa using hc 0 v rfl⟩
set_option maxRecDepth 100000 in
set_option maxHeartbeats 2000000 in
theorem lists_same (A B : Option Addr) (ca cb : Nat) (l : List ByteArray) (w : World) (hA : RowsAt w A 1 (l.map fun s => [.string s])) (hB : RowsAt w B 1 (l.map fun s => [.string s])) (hl : l.length ≤ 100000) :
    Calls Try.prog 23 #[.slice A l.length ca, .slice B l.length cb] w fun e w' => e = .returned (.bool true) ∧ Upd [] w w' := by
  have z0 : ((l.length : Int) != (l.length : Int)) = false := by simp
  go_enter Try.func23, Try.ntmps23
  go_wp2_with fail
  go_loopg [5] l.length (fun kq v5 w' => ∃ i : Nat, v5 = .int .i64 (i : Int) ∧ kq + i = l.length ∧ Upd [] w w')
  case atStart => exact ⟨0, rfl, rfl, Upd.refl _ _⟩
  case round =>
    obtain ⟨i, rfl, hk, hU⟩ := hrel
    by_cases hi : i < l.length
    · have z1 : decide ((i : Int) < (l.length : Int)) = true := decide_eq_true (by omega)
      obtain ⟨x, hx⟩ : ∃ x, l[i]? = some x := ⟨l[i], List.getElem?_eq_getElem hi⟩
      obtain ⟨b, off, rfl, k0⟩ := one_cell (hA.keep hU) (i := i) (v := .string x) (by rw [List.getElem?_map, hx]; rfl)
      obtain ⟨b', off', rfl, k1⟩ := one_cell (hB.keep hU) (i := i) (v := .string x) (by rw [List.getElem?_map, hx]; rfl)
      have y3 : (0 : Int) ≤ (i : Int) := by omega
      have y4 : (i : Int) < (l.length : Int) := by omega
      clear hx
      go_wp2_with fail
      go_quiet (fail)
      go_wp2_with fail
      go_roundg (gk - 1)
      case measure => omega
      case rel => exact ⟨i + 1, by go_num, by omega, hU.drewN _⟩
    · have z1 : decide ((i : Int) < (l.length : Int)) = false := decide_eq_false (by omega)
      go_wp2_with fail
      go_ret
      exact ⟨rfl, hU⟩
set_option maxRecDepth 100000 in
set_option maxHeartbeats 2000000 in
theorem numbers_same (A B : Option Addr) (ca cb : Nat) (l : List Int) (w : World) (hA : RowsAt w A 1 (l.map encI)) (hB : RowsAt w B 1 (l.map encI)) (hl : l.length ≤ 100000) :
    Calls Try.prog 19 #[.slice A l.length ca, .slice B l.length cb] w fun e w' => e = .returned (.bool true) ∧ Upd [] w w' := by
  have z0 : ((l.length : Int) != (l.length : Int)) = false := by simp
  go_enter Try.func19, Try.ntmps19
  go_wp2_with fail
  go_loopg [5] l.length (fun kq v5 w' => ∃ i : Nat, v5 = .int .i64 (i : Int) ∧ kq + i = l.length ∧ Upd [] w w')
  case atStart => exact ⟨0, rfl, rfl, Upd.refl _ _⟩
  case round =>
    obtain ⟨i, rfl, hk, hU⟩ := hrel
    by_cases hi : i < l.length
    · have z1 : decide ((i : Int) < (l.length : Int)) = true := decide_eq_true (by omega)
      obtain ⟨x, hx⟩ : ∃ x, l[i]? = some x := ⟨l[i], List.getElem?_eq_getElem hi⟩
      obtain ⟨b, off, rfl, k0⟩ := one_cell (hA.keep hU) (i := i) (v := .int .i64 x) (by rw [List.getElem?_map, hx]; rfl)
      obtain ⟨b', off', rfl, k1⟩ := one_cell (hB.keep hU) (i := i) (v := .int .i64 x) (by rw [List.getElem?_map, hx]; rfl)
      have y3 : (0 : Int) ≤ (i : Int) := by omega
      have y4 : (i : Int) < (l.length : Int) := by omega
      have y5 : (x != x) = false := by simp
      clear hx
      go_wp2_with fail
      go_quiet (fail)
      go_wp2_with fail
      go_roundg (gk - 1)
      case measure => omega
      case rel => exact ⟨i + 1, by go_num, by omega, hU.drewN _⟩
    · have z1 : decide ((i : Int) < (l.length : Int)) = false := decide_eq_false (by omega)
      go_wp2_with fail
      go_ret
      exact ⟨rfl, hU⟩
end Go.Proofs.Ytagjcnhgappcjaa
