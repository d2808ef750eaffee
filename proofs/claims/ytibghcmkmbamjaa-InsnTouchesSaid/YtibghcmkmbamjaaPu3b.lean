/- What is written and read: the program's words and the document's. -/
import Derived.Test.YtibghcmkmbamjaaPu1b
import Derived.Test.YtibghcmkmbamjaaPu0
import Derived.Test.YtibghcmkmbamjaaPIx9b
import Derived.Test.YtibghcmkmbamjaaPIx18
namespace Go.Proofs.Ytibghcmkmbamjaa.PI
open Go.RowKit Go.Proofs.YtibghcmkmbamjaaW.PrintWords Go.Proofs.YtibghcmkmbamjaaW.PrintLast Go.Proofs.YtibghcmkmbamjaaW.PrintMore
set_option linter.unusedVariables false
set_option linter.unusedSimpArgs false
set_option linter.unusedSectionVars false
def writesF (op D S O M : Int) : Int × Bool := if kindF op D S O M = 1 ∨ kindF op D S O M = 2 ∨ kindF op D S O M = 9 then (D, true) else if kindF op D S O M = 6 ∨ kindF op D S O M = 7 then (0, true) else (0, false)
def readsF (op D S O M : Int) : List Int :=
  if kindF op D S O M = 1 ∨ kindF op D S O M = 5 then regsL (readsL (kindF op D S O M) (op / 16) (xB op) D S) else if kindF op D S O M = 2 then [S] else if kindF op D S O M = 3 then [D] else if kindF op D S O M = 4 then two8 D S else if kindF op D S O M = 8 then [0] else []
section
variable (k : Nat) (op D S O M : Int) (h0 : 0 ≤ op) (h1 : op ≤ 255)
include h0 h1
theorem rclass_eq2 : wardenref07_class.f op D S O M = some (op % 8) := by
  unfold wardenref07_class.f
  rw [Int.tmod_eq_emod_of_nonneg h0]
theorem rCode_eq2 : wardenref07_Code.f op D S O M = some (op / 16) := by
  unfold wardenref07_Code.f
  rw [Int.tdiv_eq_ediv_of_nonneg h0]
  congr 1
  omega
theorem Writes_eq : insn_Writes.f (k + 8) op D S O M = some (writesF op D S O M) := by
  unfold insn_Writes.f writesF
  rw [Kind_eq (k + 1) op D S O M h0 h1, bsome]
  simp only [insn_Writes.j0]
  generalize kindF op D S O M = t
  by_cases t1 : t = 1
  · simp [t1]
  by_cases t2 : t = 2
  · simp [t2]
  by_cases t9 : t = 9
  · simp [t9]
  by_cases t6 : t = 6
  · simp [t6]
  by_cases t7 : t = 7
  · simp [t7]
  simp [t1, t2, t9, t6, t7]
theorem rWrites_eq : wardenref07_Writes.f (k + 8) op D S O M = some (writesF op D S O M) := by
  unfold wardenref07_Writes.f writesF
  rw [rKind_eq (k + 1) op D S O M h0 h1, bsome]
  simp only [wardenref07_Writes.j0]
  generalize kindF op D S O M = t
  by_cases t1 : t = 1
  · simp [t1]
  by_cases t2 : t = 2
  · simp [t2]
  by_cases t9 : t = 9
  · simp [t9]
  by_cases t6 : t = 6
  · simp [t6]
  by_cases t7 : t = 7
  · simp [t7]
  simp [t1, t2, t9, t6, t7]
theorem Reads_eq : insn_Reads.f (k + 7) op D S O M = some (readsF op D S O M) := by
  have hcd : insn_Code.f op D S O M = some (op / 16) := rfl
  have hb : insn_bitX.f op D S O M = some (xB op) := rfl
  unfold insn_Reads.f readsF
  rw [Kind_eq k op D S O M h0 h1, bsome, hcd, bsome, hb, bsome]
  split
  · rfl
  split
  · rfl
  split
  · rfl
  split
  · rfl
  split <;> rfl
omit h0 h1 in
theorem two_eq (a b : Int) : wardenref07_two.f a b = some (two8 a b) := by
  unfold wardenref07_two.f two8 mn mx
  by_cases h : a = b
  · simp [h]
  · by_cases h2 : b < a
    · have h3 : ¬ a < b := by omega
      simp [h, h2, h3]
    · have h3 : a < b := by omega
      simp [h, h2, h3]
theorem rReads_eq : wardenref07_Reads.f (k + 8) op D S O M = some (readsF op D S O M) := by
  have hb : wardenref07_x.f op D S O M = some (xB op) := rfl
  unfold wardenref07_Reads.f readsF
  rw [rKind_eq (k + 1) op D S O M h0 h1, bsome]
  simp only [wardenref07_Reads.j0, rCode_eq2 op D S O M h0 h1, bsome, hb, two_eq]
  generalize kindF op D S O M = t
  generalize op / 16 = c
  unfold readsL
  by_cases t1 : t = 1
  · subst t1
    by_cases c11 : c = 11
    · cases xB op <;> simp [c11, regsL]
    · cases xB op <;> simp [c11, regsL]
  by_cases t2 : t = 2
  · simp [t2]
  by_cases t3 : t = 3
  · simp [t3]
  by_cases t4 : t = 4
  · simp [t4]
  by_cases t5 : t = 5
  · cases xB op <;> simp [t5, regsL]
  by_cases t8 : t = 8
  · simp [t8]
  simp [t1, t2, t3, t4, t5, t8]
end
theorem regs_same (k : Nat) (l : List Int) (h : l.length ≤ 2) : wardenlaw07_regs.f (k + 3) l l = some true := by
  have e1 : wrap64 1 = 1 := by decide +kernel
  have e2 : wrap64 2 = 2 := by decide +kernel
  unfold wardenlaw07_regs.f
  rw [if_pos rfl]
  rcases l with _ | ⟨a, _ | ⟨b, _ | ⟨c, l⟩⟩⟩
  · simp [wardenlaw07_regs.l0]
  · simp [wardenlaw07_regs.l0, e1]
  · simp [wardenlaw07_regs.l0, e1, e2]
  · simp at h
theorem two8_len (a b : Int) : (two8 a b).length ≤ 2 := by
  unfold two8
  split
  · simp
  · split <;> simp
theorem readsF_len (op D S O M : Int) : (readsF op D S O M).length ≤ 2 := by
  unfold readsF
  split
  · unfold readsL
    split <;> cases xB op <;> simp [regsL]
    exact two8_len D S
  split
  · simp
  split
  · simp
  split
  · exact two8_len D S
  split <;> simp
end Go.Proofs.Ytibghcmkmbamjaa.PI
