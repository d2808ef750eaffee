/- InsnStrict: the walk. -/
import Derived.Test.YtibghcmkmbamjaaStrictA
import Derived.Test.YtibghcmkmbamjaaStrictB
import Derived.Test.YtibghcmkmbamjaaStrictC
import Derived.Test.YtibghcmkmbamjaaStrictE
import Derived.Test.YtibghcmkmbamjaaStrictF
import Derived.Test.YtibghcmkmbamjaaPu7
import Derived.Test.YtibghcmkmbamjaaPartLib
import Derived.Deep.RegionHeld3
import Derived.Deep.DeepCutAuto
import Derived.IntWalk
import Derived.Deep.QuietTactic
import Derived.BigQuiet
namespace Go.Proofs.Ytibghcmkmbamjaa.PI
open Go.RowKit Go.Proofs.YtibghcmkmbamjaaW.PrintWords Go.Proofs.YtibghcmkmbamjaaW.PrintLast Go.Proofs.YtibghcmkmbamjaaW.PrintMore Go.Proofs.Ytibghcmkmbamjaa
set_option linter.unusedVariables false
set_option linter.unusedSimpArgs false
set_option linter.unusedSectionVars false
section
variable {op D S O M : Int} (h : InsnOk op D S O M) (off imm src : Int) (w : World)
include h
theorem strict_walk (ho : -32768 ≤ off ∧ off ≤ 32767) (hi : -2147483648 ≤ imm ∧ imm ≤ 2147483647) (hs : 0 ≤ src ∧ src ≤ 255) :
    Calls Try.prog 7 #[.agg #[.int .u8 op, .int .u8 D, .int .u8 S, .int .i16 O, .int .i32 M], .int .i16 off, .int .i32 imm, .int .u8 src] w fun e w' => e = .returned (.bool true) ∧ Upd [] w w' := by
  rcases kind_cases op D S O M h with hk | ⟨-, -, hk⟩
  · exact strict_0 h off imm src w hk
  rcases hk with hk | hk | hk | hk | hk | hk | hk | ⟨-, hk | hk | hk⟩
  · exact strict_F h off imm src w hk ho hi hs
  · exact strict_B h off imm src w (by omega) ho hi hs
  · exact strict_B h off imm src w (by omega) ho hi hs
  · exact strict_B h off imm src w (by omega) ho hi hs
  · exact strict_C h off imm src w (by omega) ho hi hs
  · exact strict_A h off imm src w (by omega) ho hi hs
  · exact strict_A h off imm src w (by omega) ho hi hs
  · exact strict_E h off imm src w hk ho hi hs
  · exact strict_A h off imm src w (by omega) ho hi hs
  · exact strict_C h off imm src w (by omega) ho hi hs
end
end Go.Proofs.Ytibghcmkmbamjaa.PI
