/- code: the document's kind of an instruction. -/
import Derived.Test.YtibghcmkmbamjaaCBase
import Derived.Test.YtibghcmkmbamjaaPu1b
namespace Go.Proofs.Ytibghcmkmbamjaa
open Go.RowKit
set_option linter.unusedVariables false
set_option linter.unusedSimpArgs false
set_option linter.unusedSectionVars false
theorem rkind20 {x : Ins} (h : OkI x) (w : World) : Calls Try.prog 20 #[.agg #[.int .u8 x.op, .int .u8 x.D, .int .u8 x.S, .int .i16 x.O, .int .i32 x.M]] w fun e w' => e = .returned (.int .u8 x.kind) ∧ Upd [] w w' :=
  (PI.wardenref07_Kind.calls 7 x.op x.D x.S x.O x.M _ w (PI.rKind_eq 0 x.op x.D x.S x.O x.M h.op0 h.op1)).mono fun e w' ⟨h1, h2⟩ => ⟨h1, Upd.of_below h2 []⟩
end Go.Proofs.Ytibghcmkmbamjaa
