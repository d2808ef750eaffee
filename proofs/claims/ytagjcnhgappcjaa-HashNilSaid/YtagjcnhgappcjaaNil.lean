/- HashNil: the walk. -/
import Derived.Test.YtagjcnhgappcjaaHWorks
namespace Go.Proofs.Ytagjcnhgappcjaa
open Go.RowKit
set_option linter.unusedVariables false
set_option linter.unusedSimpArgs false
set_option maxRecDepth 100000 in
set_option maxHeartbeats 2000000 in
theorem nil_walk (k : ByteArray) (x : Int) (w : World) (hk : k.size ≤ 140737488355328) :
    Calls Try.prog 6 #[.string k, .int .i64 x] w fun e w' => e = .returned (.bool true) ∧ Upd [] w w' := by
  by_cases c0 : 256 < k.size
  · have z0 : decide ((256 : Int) < (k.size : Int)) = true := decide_eq_true (by omega)
    go_enter Try.func6, Try.ntmps6
    go_wp2_with (go_at_call 9; (with_reducible refine (works _).mono ?_); rintro e w1 ⟨rfl, u1⟩)
    go_ret
    exact ⟨rfl, u1⟩
  have z0 : decide ((256 : Int) < (k.size : Int)) = false := decide_eq_false (by omega)
  go_enter Try.func6, Try.ntmps6
  go_wp2_with (first
    | (go_at_call 11; (with_reducible refine (hPut_nil _ k).mono ?_); rintro e w1 ⟨rfl, rfl⟩)
    | (go_at_call 12; (with_reducible refine (hDrop_nil _ k).mono ?_); rintro e w1 ⟨rfl, rfl⟩)
    | (go_at_call 26; (with_reducible refine (hFind_nil _ k).mono ?_); rintro e w1 ⟨rfl, rfl⟩)
    | (go_at_call 14; (with_reducible refine (hGet_nil _ x).mono ?_); rintro e w1 ⟨rfl, rfl⟩)
    | (go_at_call 15; (with_reducible refine (hKey_nil _ x).mono ?_); rintro e w1 ⟨rfl, rfl⟩)
    | (go_at_call 13; (with_reducible refine (hWrite_nil _ x 0 k).mono ?_); rintro e w1 ⟨rfl, rfl⟩)
    | (go_at_call 20; (with_reducible refine (hSlots_nil _).mono ?_); rintro e w1 ⟨rfl, rfl⟩)
    | (go_at_call 24; (with_reducible refine (hKeys_nil _).mono ?_); rintro e w1 ⟨rfl, rfl⟩)
    | (go_at_call 17; (with_reducible refine (hSize_nil _).mono ?_); rintro e w1 ⟨rfl, rfl⟩)
    | (go_at_call 9; (with_reducible refine (works _).mono ?_); rintro e w1 ⟨rfl, u1⟩))
  go_ret
  exact ⟨rfl, u1⟩
end Go.Proofs.Ytagjcnhgappcjaa
