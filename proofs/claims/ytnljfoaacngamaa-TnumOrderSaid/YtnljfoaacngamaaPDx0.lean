-- turned from the kit's print
import Derived.Test.YtnljfoaacngamaaProg
import Derived.Below
import Derived.Deep.Draws
import Derived.Deep.AppendLies
import Derived.Maps.AppendAt
import Derived.OwnWalk
import Derived.Laws.BytesArg
import Derived.Laws.MakeOwn
import Derived.Laws.OwnMore
import Derived.Deep.OwnRows
import Derived.Tactics
import Derived.Lib.ConvBytes
import Derived.Laws.Slices
import Derived.WalkKit
import Derived.KernelRfl
import Derived.RowKit3
import Derived.Deep.LoopGhost
import Derived.Deep.QuietTactic
import Derived.BigQuiet
import Derived.WideLaws
import Derived.Deep.DeepCutAuto
import Derived.Deep.CutBlock
import Derived.Deep.RegionHeld3
import Derived.Laws.Rows
import Derived.Lib.AppendStr
import Derived.ArgAppend
import Derived.Laws.IdiomCopy
import Derived.OrdersHeld
import Derived.Laws.BitsLemmas
import Derived.RowKit
import Derived.Test.YtnljfoaacngamaaWWords
import Derived.Test.YtnljfoaacngamaaWLast
import Derived.Test.YtnljfoaacngamaaWTab
import Derived.Test.YtnljfoaacngamaaWFour
import Derived.Test.YtnljfoaacngamaaWQPut
import Derived.Test.YtnljfoaacngamaaWApart
import Derived.Test.YtnljfoaacngamaaWArr
import Derived.Test.YtnljfoaacngamaaWZeros
import Derived.Test.YtnljfoaacngamaaWFoot
import Derived.Test.YtnljfoaacngamaaWKept
import Derived.Test.YtnljfoaacngamaaWShare
import Derived.Test.YtnljfoaacngamaaWN
import Derived.Test.YtnljfoaacngamaaWFootNe
import Derived.Test.YtnljfoaacngamaaWAt
import Derived.Test.YtnljfoaacngamaaWEqStruct
import Derived.Test.YtnljfoaacngamaaWRepsOne
import Derived.Test.YtnljfoaacngamaaWInv
import Derived.Test.YtnljfoaacngamaaWInvWords
import Derived.Test.YtnljfoaacngamaaWGuard
import Derived.Test.YtnljfoaacngamaaWNEv
import Derived.Test.YtnljfoaacngamaaWMore
namespace Go.Proofs.Ytnljfoaacngamaa.PD
open Go.RowKit Go.Proofs.YtnljfoaacngamaaW.PrintWords Go.Proofs.YtnljfoaacngamaaW.PrintLast Go.Proofs.YtnljfoaacngamaaW.PrintMore
attribute [local go_sem] max2_int min2_int max_two min_two max_three min_three max_four min_four   -- for this text's walks alone
set_option linter.unusedVariables false
set_option linter.unusedSimpArgs false



def errW : Option Int → Value
  | none => .nilIface
  | some c => .iface 0 (.int .i64 c)
theorem errW_none : errW none = .nilIface := rfl
theorem errW_some (c : Int) : errW (some c) = .iface 0 (.int .i64 c) := rfl

-- the values' own types

end Go.Proofs.Ytnljfoaacngamaa.PD
