/- SlabRoom: the walk, of a room that came in. -/
import Derived.Test.YtgleceijdedlkaaRoom12
namespace Go.Proofs.Ytgleceijdedlkaa
open Go.RowKit
theorem room_of (room : Int) (A : Option Addr) (c : Nat) (l : List UInt8) (A2 : Option Addr) (c2 : Nat) (gl : List Bool) (w : World) (hl : BytesRd w A l) (hg : RowsAt w A2 1 (gl.map fun b => [Value.bool b])) (hr : (Lit.int .u16 room).wf = true) :
    Calls Try.prog 11 #[.int .u16 room, .slice A l.length c, .slice A2 gl.length c2] w fun e w' => e = .returned (.bool true) ∧ Upd [] w w' := by
  have q1 : IntKind.u16.min ≤ room ∧ room ≤ IntKind.u16.max := by simpa [Lit.wf] using hr
  change (0 : Int) ≤ room ∧ room ≤ 65535 at q1
  exact room_walk room A c l A2 c2 gl w hl hg q1
end Go.Proofs.Ytgleceijdedlkaa
