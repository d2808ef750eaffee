/- InsnStrict: what is none. -/
import Derived.Test.YtibghcmkmbamjaaCons
import Derived.Test.YtibghcmkmbamjaaPu7
import Derived.Test.YtibghcmkmbamjaaPartLib
import Derived.Deep.RegionHeld3
import Derived.Deep.DeepCutAuto
import Derived.IntWalk
import Derived.Deep.QuietTactic
import Derived.BigQuiet
namespace Go.Proofs.Ytibghcmkmbamjaa.PI
open Go.RowKit Go.Proofs.YtibghcmkmbamjaaW.PrintWords Go.Proofs.YtibghcmkmbamjaaW.PrintLast Go.Proofs.YtibghcmkmbamjaaW.PrintMore Go.Proofs.Ytibghcmkmbamjaa
set_option linter.unusedVariables false
set_option linter.unusedSimpArgs false
set_option linter.unusedSectionVars false
theorem kca {w : World} {a : Addr} {v : Value} (h : w.cell? a = some v) (o : Obj) : (w.alloc o).cell? a = some v := ((Upd.refl [] w).alloc o).cell h (by simp)
theorem kcd {w : World} {a : Addr} {v : Value} (h : w.cell? a = some v) : w.drew.cell? a = some v := h
theorem kcs {w : World} {a : Addr} {v : Value} (h : w.cell? a = some v) (b o : Nat) (u : Value) (hb : a.block ≠ b) : (w.setCell ⟨b, o, none⟩ u).cell? a = some v := ((Upd.refl [b] w).setCell ⟨b, o, none⟩ u (.inl (by simp))).cell h (by simpa using hb)
section
variable {op D S O M : Int} (h : InsnOk op D S O M) (off imm src : Int) (w : World)
include h
set_option maxHeartbeats 4000000 in
set_option maxRecDepth 100000 in
theorem strict_0 (hk : kindF op D S O M = 0) :
    Calls Try.prog 7 #[.agg #[.int .u8 op, .int .u8 D, .int .u8 S, .int .i16 O, .int .i32 M], .int .i16 off, .int .i32 imm, .int .u8 src] w fun e w' => e = .returned (.bool true) ∧ Upd [] w w' := by
  have hh := (SepK.start w).alloc (Obj.cells #[.int .u8 op, .int .u8 D, .int .u8 S, .int .i16 O, .int .i32 M] 24)
  go_enter Try.func7, Try.ntmps7
  go_wp2_with fail
  refine (kind_c h _).mono ?_
  rw [hk]
  rintro e w1 ⟨rfl, hb⟩
  replace hh := hh.upd (up_below (Upd.refl [] _) hb)
  clear hb
  go_wp2_with (go_at_call 14; refine (alive_c _).mono ?_; rintro e wq ⟨rfl, hx9⟩; replace hh := hh.upd (up_below (Upd.refl [] _) hx9))
  go_ret
  exact ⟨rfl, hh.u⟩
end
end Go.Proofs.Ytibghcmkmbamjaa.PI
