/- What an instruction is: plain facts of its kind. -/
import Derived.Test.YtibghcmkmbamjaaPu1
import Derived.Test.YtibghcmkmbamjaaPu0
import Derived.Test.YtibghcmkmbamjaaPIx9b
import Derived.Test.YtibghcmkmbamjaaOpenInsn
namespace Go.Proofs.Ytibghcmkmbamjaa.PI
open Go.RowKit Go.Proofs.YtibghcmkmbamjaaW.PrintWords Go.Proofs.YtibghcmkmbamjaaW.PrintLast Go.Proofs.YtibghcmkmbamjaaW.PrintMore Go.Proofs.Ytibghcmkmbamjaa
set_option linter.unusedVariables false
set_option linter.unusedSimpArgs false
theorem usB_regs {d s o m : Bool} {D S O M : Int} (h : usB d s o m D S O M = true) : D < 11 ∧ S < 11 := by
  unfold usB at h
  simp only [Bool.and_eq_true, decide_eq_true_eq] at h
  exact ⟨h.1.2, h.2⟩
theorem jump_cases (c cl : Int) (x : Bool) (D S O M : Int) : jumpF c cl x D S O M = 0 ∨ ((jumpF c cl x D S O M = 5 ∨ jumpF c cl x D S O M = 6 ∨ jumpF c cl x D S O M = 7 ∨ jumpF c cl x D S O M = 8 ∨ jumpF c cl x D S O M = 10) ∧ D < 11 ∧ S < 11) := by
  unfold jumpF
  split
  · rename_i h
    rw [Bool.and_eq_true] at h
    exact .inr ⟨.inl rfl, usB_regs h.2⟩
  split
  · exact .inl rfl
  split
  · rename_i h
    rw [Bool.and_eq_true] at h
    exact .inr ⟨by simp, usB_regs h.2⟩
  split
  · rename_i h
    rw [Bool.and_eq_true] at h
    exact .inr ⟨by simp, usB_regs h.2⟩
  split
  · rename_i h
    rw [Bool.and_eq_true, Bool.and_eq_true] at h
    exact .inr ⟨by simp, usB_regs h.2.2⟩
  split
  · rename_i h
    rw [Bool.and_eq_true, Bool.and_eq_true] at h
    exact .inr ⟨by simp, usB_regs h.2.2⟩
  exact .inl rfl
/-- Which kinds there are, of which registers. -/
theorem kind_cases (op D S O M : Int) (h : InsnOk op D S O M) : kindF op D S O M = 0 ∨
    (D < 11 ∧ S < 11 ∧ (kindF op D S O M = 5 ∨ kindF op D S O M = 6 ∨ kindF op D S O M = 7 ∨ kindF op D S O M = 8 ∨ kindF op D S O M = 10 ∨ kindF op D S O M = 3 ∨ kindF op D S O M = 4 ∨ (D < 10 ∧ (kindF op D S O M = 1 ∨ kindF op D S O M = 2 ∨ kindF op D S O M = 9)))) := by
  have hrk : (if op / 16 = 8 then !(xB op) && usB true false false false D S O M else decide (op / 16 ≤ 12) && usB true (xB op) false (!(xB op)) D S O M) = true → D < 11 ∧ S < 11 := by
    intro h3
    split at h3
    · rw [Bool.and_eq_true] at h3; exact usB_regs h3.2
    · rw [Bool.and_eq_true] at h3; exact usB_regs h3.2
  unfold kindF
  generalize (if op / 16 = 8 then !(xB op) && usB true false false false D S O M else decide (op / 16 ≤ 12) && usB true (xB op) false (!(xB op)) D S O M) = rk at hrk ⊢
  split
  · rcases jump_cases (op / 16) (op % 8) (xB op) D S O M with e | ⟨e, h1, h2⟩
    · exact .inl e
    · refine .inr ⟨h1, h2, ?_⟩
      rcases e with e | e | e | e | e <;> simp [e]
  split
  · split
    · rename_i h1
      rw [Bool.and_eq_true] at h1
      obtain ⟨h2, h3⟩ := h1
      have hD : D ≠ 10 := by simpa using h2
      have hr := hrk h3
      exact .inr ⟨hr.1, hr.2, by simp; omega⟩
    · exact .inl rfl
  split
  · split
    · rename_i h1
      rw [Bool.and_eq_true, Bool.and_eq_true] at h1
      have hD : D ≠ 10 := by simpa using h1.2.1
      have hr := usB_regs h1.2.2
      exact .inr ⟨hr.1, hr.2, by simp; omega⟩
    · exact .inl rfl
  split
  · split
    · rename_i h1
      rw [Bool.and_eq_true] at h1
      have hr := usB_regs h1.2
      exact .inr ⟨hr.1, hr.2, by simp⟩
    · exact .inl rfl
  split
  · split
    · rename_i h1
      rw [Bool.and_eq_true] at h1
      have hr := usB_regs h1.2
      exact .inr ⟨hr.1, hr.2, by simp⟩
    · exact .inl rfl
  split
  · rename_i h1
    rw [Bool.and_eq_true, Bool.and_eq_true, Bool.and_eq_true] at h1
    have hD : D ≠ 10 := by simpa using h1.2.1
    have hr := usB_regs h1.2.2.2
    exact .inr ⟨hr.1, hr.2, by simp; omega⟩
  · exact .inl rfl
end Go.Proofs.Ytibghcmkmbamjaa.PI
