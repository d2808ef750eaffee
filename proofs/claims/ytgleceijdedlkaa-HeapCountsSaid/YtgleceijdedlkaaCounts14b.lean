/- HeapCounts: the walk, of a room that came in. -/
import Derived.Test.YtgleceijdedlkaaCounts14
import Derived.Test.YtgleceijdedlkaaOpen14
namespace Go.Proofs.Ytgleceijdedlkaa
open Go.RowKit
theorem counts_of (A : Option Addr) (c : Nat) (l : List St14) (room : Int) (w : World) (hl : RowsAt w A 8 (l.map encS)) (hs : ∀ s ∈ l, okS s) (hr : (Lit.int .u16 room).wf = true) :
    Calls Try.prog 5 #[.int .u16 room, .slice A l.length c] w fun e w' => e = .returned (.bool true) ∧ Upd [] w w' := by
  have q1 : IntKind.u16.min ≤ room ∧ room ≤ IntKind.u16.max := by simpa [Lit.wf] using hr
  change (0 : Int) ≤ room ∧ room ≤ 65535 at q1
  exact counts_walk A c l room w hl hs q1
end Go.Proofs.Ytgleceijdedlkaa
