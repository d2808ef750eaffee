/- Sizes, widths, of memory: the program's words and the document's. -/
import Derived.Test.YtibghcmkmbamjaaPu1b
import Derived.Test.YtibghcmkmbamjaaPu0
import Derived.Test.YtibghcmkmbamjaaPIx9
import Derived.Test.YtibghcmkmbamjaaPIx16
namespace Go.Proofs.Ytibghcmkmbamjaa.PI
open Go.RowKit Go.Proofs.YtibghcmkmbamjaaW.PrintWords Go.Proofs.YtibghcmkmbamjaaW.PrintLast Go.Proofs.YtibghcmkmbamjaaW.PrintMore
set_option linter.unusedVariables false
set_option linter.unusedSimpArgs false
set_option linter.unusedSectionVars false
def szF (x : Int) : Int := if x = 0 then 4 else if x = 1 then 2 else if x = 2 then 1 else 8
def sizeF (op D S O M : Int) : Int := if kindF op D S O M = 2 ∨ kindF op D S O M = 3 ∨ kindF op D S O M = 4 then szF (op / 8 % 4) else 0
def wideF (op D S O M : Int) : Bool := if kindF op D S O M = 1 then op % 8 == 7 else if kindF op D S O M = 5 then op % 8 == 5 else false
theorem and3 (op : Int) (h0 : 0 ≤ op) (h1 : op ≤ 255) : Go.bits .and .u8 (op / 8) 3 = op / 8 % 4 := bits_mask .u8 8 (by decide) wraps_u8 2 (by decide) (op / 8) (by omega) (by omega)
section
variable (k : Nat) (op D S O M : Int) (h0 : 0 ≤ op) (h1 : op ≤ 255)
include h0 h1
theorem Size_eq : insn_Size.f (k + 7) op D S O M = some (sizeF op D S O M) := by
  unfold insn_Size.f sizeF
  rw [Kind_eq k op D S O M h0 h1, bsome, and3 op h0 h1]
  have hs : szOf (op / 8 % 4) = szF (op / 8 % 4) := by
    rcases (show op / 8 % 4 = 0 ∨ op / 8 % 4 = 1 ∨ op / 8 % 4 = 2 ∨ op / 8 % 4 = 3 by omega) with h | h | h | h <;> rw [h] <;> decide
  rw [hs]
  split <;> rfl
theorem rclass_eq : wardenref07_class.f op D S O M = some (op % 8) := by
  unfold wardenref07_class.f
  rw [Int.tmod_eq_emod_of_nonneg h0]
theorem rCode_eq : wardenref07_Code.f op D S O M = some (op / 16) := by
  unfold wardenref07_Code.f
  rw [Int.tdiv_eq_ediv_of_nonneg h0]
  congr 1
  omega
theorem rSize_eq : wardenref07_Size.f (k + 8) op D S O M = some (sizeF op D S O M) := by
  unfold wardenref07_Size.f sizeF szF
  rw [rKind_eq (k + 1) op D S O M h0 h1, bsome]
  simp only [wardenref07_Size.j0]
  have e : Int.tdiv op 8 % 256 % 4 = op / 8 % 4 := by rw [Int.tdiv_eq_ediv_of_nonneg h0]; omega
  rw [e]
  generalize kindF op D S O M = t
  generalize op / 8 % 4 = z
  by_cases t2 : t = 2
  · by_cases z0 : z = 0 <;> by_cases z1 : z = 1 <;> by_cases z2 : z = 2 <;> simp [t2, z0, z1, z2]
  by_cases t3 : t = 3
  · by_cases z0 : z = 0 <;> by_cases z1 : z = 1 <;> by_cases z2 : z = 2 <;> simp [t2, t3, z0, z1, z2]
  by_cases t4 : t = 4
  · by_cases z0 : z = 0 <;> by_cases z1 : z = 1 <;> by_cases z2 : z = 2 <;> simp [t2, t3, t4, z0, z1, z2]
  simp [t2, t3, t4]
theorem Wide_eq : insn_Wide.f (k + 7) op D S O M = some (wideF op D S O M) := by
  unfold insn_Wide.f wideF
  rw [Kind_eq k op D S O M h0 h1, bsome, class_eq op D S O M h0 h1, bsome, bsome]
  generalize kindF op D S O M = t
  by_cases t1 : t = 1
  · simp [t1]
  by_cases t5 : t = 5
  · simp [t5]
  simp [t1, t5]
theorem rWide_eq : wardenref07_Wide.f (k + 7) op D S O M = some (wideF op D S O M) := by
  unfold wardenref07_Wide.f wideF
  rw [rKind_eq k op D S O M h0 h1, bsome]
  simp only [rclass_eq op D S O M h0 h1, bsome]
  generalize kindF op D S O M = t
  by_cases t1 : t = 1
  · subst t1
    by_cases c7 : op % 8 = 7 <;> simp [c7]
  by_cases t5 : t = 5
  · simp [t5]
  simp [t1, t5]
end
end Go.Proofs.Ytibghcmkmbamjaa.PI
