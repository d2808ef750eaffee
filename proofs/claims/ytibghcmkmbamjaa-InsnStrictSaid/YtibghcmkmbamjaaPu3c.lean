/- Sizes, widths, what is written and read: the program's words. -/
import Derived.Test.YtibghcmkmbamjaaPu1
import Derived.Test.YtibghcmkmbamjaaPu0
import Derived.Test.YtibghcmkmbamjaaPIx9b
namespace Go.Proofs.Ytibghcmkmbamjaa.PI
open Go.RowKit Go.Proofs.YtibghcmkmbamjaaW.PrintWords Go.Proofs.YtibghcmkmbamjaaW.PrintLast Go.Proofs.YtibghcmkmbamjaaW.PrintMore
set_option linter.unusedVariables false
set_option linter.unusedSimpArgs false
set_option linter.unusedSectionVars false
def szF (x : Int) : Int := if x = 0 then 4 else if x = 1 then 2 else if x = 2 then 1 else 8
def sizeF (op D S O M : Int) : Int := if kindF op D S O M = 2 ∨ kindF op D S O M = 3 ∨ kindF op D S O M = 4 then szF (op / 8 % 4) else 0
def wideF (op D S O M : Int) : Bool := if kindF op D S O M = 1 then op % 8 == 7 else if kindF op D S O M = 5 then op % 8 == 5 else false
def writesF (op D S O M : Int) : Int × Bool := if kindF op D S O M = 1 ∨ kindF op D S O M = 2 ∨ kindF op D S O M = 9 then (D, true) else if kindF op D S O M = 6 ∨ kindF op D S O M = 7 then (0, true) else (0, false)
def readsF (op D S O M : Int) : List Int :=
  if kindF op D S O M = 1 ∨ kindF op D S O M = 5 then regsL (readsL (kindF op D S O M) (op / 16) (xB op) D S) else if kindF op D S O M = 2 then [S] else if kindF op D S O M = 3 then [D] else if kindF op D S O M = 4 then two8 D S else if kindF op D S O M = 8 then [0] else []
theorem and3 (op : Int) (h0 : 0 ≤ op) (h1 : op ≤ 255) : Go.bits .and .u8 (op / 8) 3 = op / 8 % 4 := bits_mask .u8 8 (by decide) wraps_u8 2 (by decide) (op / 8) (by omega) (by omega)
section
variable (k : Nat) (op D S O M : Int) (h0 : 0 ≤ op) (h1 : op ≤ 255)
include h0 h1
theorem Size_eq : insn_Size.f (k + 7) op D S O M = some (sizeF op D S O M) := by
  unfold insn_Size.f sizeF
  rw [Kind_eq k op D S O M h0 h1, bsome, and3 op h0 h1]
  have hs : szOf (op / 8 % 4) = szF (op / 8 % 4) := by
    rcases (show op / 8 % 4 = 0 ∨ op / 8 % 4 = 1 ∨ op / 8 % 4 = 2 ∨ op / 8 % 4 = 3 by omega) with h | h | h | h <;> rw [h] <;> decide
  rw [hs]
  split <;> rfl
theorem Wide_eq : insn_Wide.f (k + 7) op D S O M = some (wideF op D S O M) := by
  unfold insn_Wide.f wideF
  rw [Kind_eq k op D S O M h0 h1, bsome, class_eq op D S O M h0 h1, bsome, bsome]
  generalize kindF op D S O M = t
  by_cases t1 : t = 1
  · simp [t1]
  by_cases t5 : t = 5
  · simp [t5]
  simp [t1, t5]
theorem Writes_eq : insn_Writes.f (k + 8) op D S O M = some (writesF op D S O M) := by
  unfold insn_Writes.f writesF
  rw [Kind_eq (k + 1) op D S O M h0 h1, bsome]
  simp only [insn_Writes.j0]
  generalize kindF op D S O M = t
  by_cases t1 : t = 1
  · simp [t1]
  by_cases t2 : t = 2
  · simp [t2]
  by_cases t9 : t = 9
  · simp [t9]
  by_cases t6 : t = 6
  · simp [t6]
  by_cases t7 : t = 7
  · simp [t7]
  simp [t1, t2, t9, t6, t7]
theorem Reads_eq : insn_Reads.f (k + 7) op D S O M = some (readsF op D S O M) := by
  have hcd : insn_Code.f op D S O M = some (op / 16) := rfl
  have hb : insn_bitX.f op D S O M = some (xB op) := rfl
  unfold insn_Reads.f readsF
  rw [Kind_eq k op D S O M h0 h1, bsome, hcd, bsome, hb, bsome]
  split
  · rfl
  split
  · rfl
  split
  · rfl
  split
  · rfl
  split <;> rfl
end
theorem two8_len (a b : Int) : (two8 a b).length ≤ 2 := by
  unfold two8
  split
  · simp
  · split <;> simp
theorem readsF_len (op D S O M : Int) : (readsF op D S O M).length ≤ 2 := by
  unfold readsF
  split
  · unfold readsL
    split <;> cases xB op <;> simp [regsL]
    exact two8_len D S
  split
  · simp
  split
  · simp
  split
  · exact two8_len D S
  split <;> simp
end Go.Proofs.Ytibghcmkmbamjaa.PI
