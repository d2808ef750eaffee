/- InsnTouches: plain. -/
import Derived.Test.YtibghcmkmbamjaaPu3b
import Derived.Test.YtibghcmkmbamjaaOpenInsn
import Derived.Test.YtibghcmkmbamjaaPIx19
namespace Go.Proofs.Ytibghcmkmbamjaa.PI
open Go.RowKit Go.Proofs.YtibghcmkmbamjaaW.PrintWords Go.Proofs.YtibghcmkmbamjaaW.PrintLast Go.Proofs.YtibghcmkmbamjaaW.PrintMore Go.Proofs.Ytibghcmkmbamjaa
set_option linter.unusedVariables false
set_option linter.unusedSimpArgs false
theorem Touches_pure (op D S O M : Int) (h : InsnOk op D S O M) : wardenlaw07_InsnTouches.f 20 op D S O M = some true := by
  have ha : wardenlaw07_alive.f 20 = some true := rfl
  unfold wardenlaw07_InsnTouches.f
  simp only [Writes_eq 12 op D S O M h.op0 h.op1, rWrites_eq 12 op D S O M h.op0 h.op1, Reads_eq 13 op D S O M h.op0 h.op1, rReads_eq 12 op D S O M h.op0 h.op1, regs_same 17 _ (readsF_len op D S O M), bsome, ha]
  simp
theorem touches_walk (op D S O M : Int) (h : InsnOk op D S O M) (w : World) : Calls Try.prog 4 #[.agg #[.int .u8 op, .int .u8 D, .int .u8 S, .int .i16 O, .int .i32 M]] w fun e w' => e = .returned (.bool true) ∧ Upd [] w w' :=
  (wardenlaw07_InsnTouches.calls 20 op D S O M true w ⟨rfl⟩ (Touches_pure op D S O M h)).mono fun e w' ⟨h1, h2⟩ => ⟨h1, Upd.of_below h2 []⟩
end Go.Proofs.Ytibghcmkmbamjaa.PI
