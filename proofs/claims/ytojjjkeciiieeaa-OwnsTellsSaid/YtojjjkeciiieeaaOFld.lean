/- owns: fields appended. -/
import Derived.Test.YtojjjkeciiieeaaOTab
namespace Go.Proofs.Ytojjjkeciiieeaa
open Go.RowKit
set_option linter.unusedVariables false
set_option linter.unusedSimpArgs false
set_option linter.unusedSectionVars false
section
variable {w0 w : World} {KK : List (Nat × Obj)} {T : Res} [Good T] {ops : Array Oper} {rest : List Oper} {o : Oper} {a : Act} {Q : Exit → Act → World → Prop}
/-- One field more. -/
theorem wl_fld (hgd : o.guard = none) (s x : Operand) (ho : o.op = .call { callee := .builtin .append, args := #[s, x], argTypes := #[39, 39] }) (v : Value) (l : List (List Value)) (hs : a.eval s = v) (f : Fld)
    (H : SepK w0 (w.alloc (.cells (encF f).toArray 43)) KK (star (rowR 43 5 v l) T)) (c : Nat) (hx : a.eval x = .slice (some ⟨w.heap.size, 0, none⟩) 1 c) (hl : l.length ≤ 2000)
    (h : ∀ v' w', SepK w0 w' KK (star (rowR 43 5 v' (l ++ [encF f])) T) → wpList Try.prog ops Q rest (a.put o.dst v') w') : wpList Try.prog ops Q (o :: rest) a (w.alloc (.cells (encF f).toArray 43)) := by
  obtain ⟨i3, hi3, hz0, hz1, hz2⟩ := info_parts info43
  exact wl_append hgd s x 39 ho 43 i3 _ 5 48 Try.underlying39 hi3 hz0 hz1 hz2 rfl (by decide) _ _ hs H ⟨w.heap.size, 0, none⟩ c (encF f) hx rfl (cell_five_new w f) (encF_one [f] _ (by simp)) (by unfold maxLen; omega) (by omega) h
/-- So many fields more. -/
theorem wl_flds (hgd : o.guard = none) (s x : Operand) (ho : o.op = .call { callee := .builtin .append, args := #[s, x], argTypes := #[39, 39] }) (v : Value) (l : List (List Value)) (hs : a.eval s = v)
    (H : SepK w0 w KK (star (rowR 43 5 v l) T)) (y : Value) (fs : List Fld) (hx : a.eval x = y) (hp : PartAt w y 5 (fs.map encF)) (hl : l.length + fs.length ≤ 2000)
    (h : ∀ v' w', SepK w0 w' KK (star (rowR 43 5 v' (l ++ fs.map encF)) T) → wpList Try.prog ops Q rest (a.put o.dst v') w') : wpList Try.prog ops Q (o :: rest) a w := by
  obtain ⟨i3, hi3, hz0, hz1, hz2⟩ := info_parts info43
  exact wl_part hgd s x 39 ho 43 i3 _ 5 48 Try.underlying39 hi3 hz0 hz1 hz2 rfl (by decide) _ _ hs H y (fs.map encF) hx hp (encF_len fs) (encF_one fs) (by rw [List.length_map]; unfold maxLen; omega) (by rw [List.length_map]; omega) h
end
end Go.Proofs.Ytojjjkeciiieeaa
