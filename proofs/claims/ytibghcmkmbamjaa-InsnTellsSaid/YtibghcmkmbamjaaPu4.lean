/- InsnTells: plain. -/
import Derived.Test.YtibghcmkmbamjaaPu3
import Derived.Test.YtibghcmkmbamjaaPu2b
import Derived.Test.YtibghcmkmbamjaaOpenInsn
import Derived.Test.YtibghcmkmbamjaaPIx17
namespace Go.Proofs.Ytibghcmkmbamjaa.PI
open Go.RowKit Go.Proofs.YtibghcmkmbamjaaW.PrintWords Go.Proofs.YtibghcmkmbamjaaW.PrintLast Go.Proofs.YtibghcmkmbamjaaW.PrintMore Go.Proofs.Ytibghcmkmbamjaa
set_option linter.unusedVariables false
set_option linter.unusedSimpArgs false
theorem Tells_pure (op D S O M : Int) (h : InsnOk op D S O M) (s : ByteArray) : wardenlaw07_InsnTells.f 20 op D S O M s = some true := by
  have ha : wardenlaw07_alive.f 20 = some true := rfl
  unfold wardenlaw07_InsnTells.f
  split
  · rw [ha, bsome]
  · rw [Decode_eq 14 s, bsome, rDecode_eq 12 s, bsome, if_pos (by simp), if_pos rfl, Encode_eq 20 op D S O M h.d0 h.d1 h.s0 h.s1, bsome, rEncode_eq 14 op D S O M h.d0 h.d1 h.s0 h.s1, bsome, if_pos rfl,
      Kind_eq 13 op D S O M h.op0 h.op1, bsome, rKind_eq 13 op D S O M h.op0 h.op1, bsome, if_pos rfl, rCode_eq op D S O M h.op0 h.op1]
    show ((some (op / 16)).bind _) = _
    rw [bsome, bsome, if_pos rfl, Size_eq 13 op D S O M h.op0 h.op1, bsome, rSize_eq 12 op D S O M h.op0 h.op1, bsome, if_pos rfl, Wide_eq 13 op D S O M h.op0 h.op1, bsome, rWide_eq 13 op D S O M h.op0 h.op1, bsome, if_pos (by simp), ha, bsome]
theorem tells_walk (op D S O M : Int) (h : InsnOk op D S O M) (s : ByteArray) (w : World) : Calls Try.prog 3 #[.agg #[.int .u8 op, .int .u8 D, .int .u8 S, .int .i16 O, .int .i32 M], .string s] w fun e w' => e = .returned (.bool true) ∧ Upd [] w w' :=
  (wardenlaw07_InsnTells.calls 20 op D S O M s true w ⟨rfl⟩ (Tells_pure op D S O M h s)).mono fun e w' ⟨h1, h2⟩ => ⟨h1, Upd.of_below h2 []⟩
end Go.Proofs.Ytibghcmkmbamjaa.PI
