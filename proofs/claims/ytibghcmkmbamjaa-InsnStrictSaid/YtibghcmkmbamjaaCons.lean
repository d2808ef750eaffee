/- The instructions' functions by their plain words. -/
import Derived.Test.YtibghcmkmbamjaaPu5
import Derived.Test.YtibghcmkmbamjaaPu3c
import Derived.Test.YtibghcmkmbamjaaPIx10
namespace Go.Proofs.Ytibghcmkmbamjaa.PI
open Go.RowKit Go.Proofs.YtibghcmkmbamjaaW.PrintWords Go.Proofs.YtibghcmkmbamjaaW.PrintLast Go.Proofs.YtibghcmkmbamjaaW.PrintMore Go.Proofs.Ytibghcmkmbamjaa
set_option linter.unusedVariables false
set_option linter.unusedSimpArgs false
set_option linter.unusedSectionVars false
section
variable {op D S O M : Int} (h : InsnOk op D S O M) (w : World)
include h
theorem kind_c : Calls Try.prog 19 #[.agg #[.int .u8 op, .int .u8 D, .int .u8 S, .int .i16 O, .int .i32 M]] w fun e w' => e = .returned (.int .u8 (kindF op D S O M)) ∧ Below w.heap.size w w' := insn_Kind.calls 7 op D S O M _ w (Kind_eq 0 op D S O M h.op0 h.op1)
theorem reads_c : Calls Try.prog 30 #[.agg #[.int .u8 op, .int .u8 D, .int .u8 S, .int .i16 O, .int .i32 M]] w fun e w' => ∃ v, e = .returned v ∧ (Kd.int .u8).R 5 w' w.heap.size (fun _ => True) v (readsF op D S O M) ∧ Below w.heap.size w w' := insn_Reads.calls 7 op D S O M _ w (Reads_eq 0 op D S O M h.op0 h.op1)
theorem writes_c : Calls Try.prog 27 #[.agg #[.int .u8 op, .int .u8 D, .int .u8 S, .int .i16 O, .int .i32 M]] w fun e w' => e = .returned (.tuple #[.int .u8 (writesF op D S O M).1, .bool (writesF op D S O M).2]) ∧ Below w.heap.size w w' := insn_Writes.calls 8 op D S O M _ _ w (Writes_eq 0 op D S O M h.op0 h.op1)
theorem size_c : Calls Try.prog 23 #[.agg #[.int .u8 op, .int .u8 D, .int .u8 S, .int .i16 O, .int .i32 M]] w fun e w' => e = .returned (.int .i64 (sizeF op D S O M)) ∧ Below w.heap.size w w' := insn_Size.calls 7 op D S O M _ w (Size_eq 0 op D S O M h.op0 h.op1)
theorem wide_c : Calls Try.prog 25 #[.agg #[.int .u8 op, .int .u8 D, .int .u8 S, .int .i16 O, .int .i32 M]] w fun e w' => e = .returned (.bool (wideF op D S O M)) ∧ Below w.heap.size w w' := insn_Wide.calls 7 op D S O M _ w (Wide_eq 0 op D S O M h.op0 h.op1)
end
theorem alive_c (w : World) : Calls Try.prog 14 #[] w fun e w' => e = .returned (.bool true) ∧ Below w.heap.size w w' := wardenlaw07_alive.calls 0 true w ⟨rfl⟩ rfl
theorem Kd_row {B : Nat} {w : World} {v : Value} {xs : List Int} (h : (Kd.int .u8).R 5 w B (fun _ => True) v xs) : rowR 5 1 v (xs.map enc8) w (fun b => B ≤ b) := by
  have ho := Kd.own_of_R (show (Kd.scalar (Value.int .u8) _).R 5 w B (fun _ => True) v xs from h)
  refine ⟨?_, fun r hr => ?_, fun g hg => ?_⟩
  · rw [flat8, List.length_map]
    refine ⟨ho.1, ?_⟩
    rcases ho.2 with q | ⟨g, cap, cur, q1, q2, q3⟩
    · exact .inl q
    · exact .inr ⟨g, cap, cur, q1, Nat.zero_le _, q3⟩
  · obtain ⟨x, _, rfl⟩ := List.mem_map.1 hr
    rfl
  · rcases ho.2 with ⟨q1, q2⟩ | ⟨g', cap, cur, q1, q2, q3⟩
    · rw [q1] at hg; cases hg
    · rw [q1] at hg; cases hg; exact q2
theorem row8_cell {w : World} {A : Option Addr} {l : List Int} (h : RowsAt w A 1 (l.map enc8)) {i : Nat} {x : Int} (hx : l[i]? = some x) : ∃ b off, A = some ⟨b, off, none⟩ ∧ w.cell? ⟨b, off + i, none⟩ = some (.int .u8 x) := by
  obtain ⟨b, off, e, hc⟩ := h i (enc8 x) (by rw [List.getElem?_map, hx]; rfl)
  exact ⟨b, off, e, by simpa using hc 0 _ rfl⟩
end Go.Proofs.Ytibghcmkmbamjaa.PI
