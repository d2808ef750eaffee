/- Which instructions are of which kind: plain equivalences. -/
import Derived.Test.YtibghcmkmbamjaaPu5
namespace Go.Proofs.Ytibghcmkmbamjaa.PI
open Go.RowKit Go.Proofs.YtibghcmkmbamjaaW.PrintWords Go.Proofs.YtibghcmkmbamjaaW.PrintLast Go.Proofs.YtibghcmkmbamjaaW.PrintMore Go.Proofs.Ytibghcmkmbamjaa
set_option linter.unusedVariables false
set_option linter.unusedSimpArgs false
theorem asks_not {c : Int} (h : asksB c = true) : (c == 0) = false ∧ (c == 9) = false ∧ (c == 8) = false := by
  unfold asksB at h
  simp only [Bool.and_eq_true, decide_eq_true_eq, bne_iff_ne, ne_eq] at h
  simp
  omega
section
variable (op D S O M : Int)
theorem j_asks (c cl : Int) (x : Bool) (h : asksB c = true) : jumpF c cl x D S O M = if usB true x true (!x) D S O M = true then 5 else 0 := by
  obtain ⟨h0, h9, h8⟩ := asks_not h
  unfold jumpF
  simp only [h, h0, h9, h8, Bool.true_and, Bool.false_and, Bool.false_eq_true, if_false]
  split
  · rfl
  · split <;> rfl
theorem j_0 (cl : Int) (x : Bool) : jumpF 0 cl x D S O M = if (!(cl != 5 || x) && usB false false true false D S O M) = true then 10 else 0 := by
  have h : asksB 0 = false := by decide
  unfold jumpF
  simp only [h, Bool.false_and, Bool.false_eq_true, if_false]
  cases (cl != 5 || x) <;> simp
theorem j_9 (cl : Int) (x : Bool) : jumpF 9 cl x D S O M = if (!(cl != 5 || x) && usB false false false false D S O M) = true then 8 else 0 := by
  have h : asksB 9 = false := by decide
  unfold jumpF
  simp only [h, Bool.false_and, Bool.false_eq_true, if_false]
  cases (cl != 5 || x) <;> simp
theorem j_8 (cl : Int) (x : Bool) : jumpF 8 cl x D S O M = if (!(cl != 5 || x) && (S == 0 && usB false false false true D S O M)) = true then 6 else if (!(cl != 5 || x) && (S == 1 && usB false true false true D S O M)) = true then 7 else 0 := by
  have h : asksB 8 = false := by decide
  unfold jumpF
  simp only [h, Bool.false_and, Bool.false_eq_true, if_false]
  cases (cl != 5 || x) <;> simp
theorem j_else (c cl : Int) (x : Bool) (h : asksB c = false) (h0 : c ≠ 0) (h9 : c ≠ 9) (h8 : c ≠ 8) : jumpF c cl x D S O M = 0 := by
  have e0 : (c == 0) = false := by simpa using h0
  have e9 : (c == 9) = false := by simpa using h9
  have e8 : (c == 8) = false := by simpa using h8
  unfold jumpF
  simp [h, e0, e9, e8]
/-- What an instruction's operation alone says of its kind: which, and which fields it uses. -/
inductive Shape (op : Int) : Prop
  | none (h : ∀ D S O M, kindF op D S O M = 0)
  | one (T : Int) (d s o m nd : Bool) (hT : T ≠ 0) (h : ∀ D S O M, kindF op D S O M = if ((!nd || D != 10) && usB d s o m D S O M) = true then T else 0)
      (ho : o = (T == 2 || T == 3 || T == 4 || T == 10 || T == 5)) (hm : m = (T == 3 || T == 5 && !(xB op) || T == 1 && !(xB op) && (op / 16 != 8)))
      (hs : s = ((T == 2 || T == 4) || (T == 1 || T == 5) && xB op)) (hT2 : T = 1 ∨ T = 2 ∨ T = 3 ∨ T = 4 ∨ T = 5 ∨ T = 8 ∨ T = 10)
  | call (h : ∀ D S O M, kindF op D S O M = if (S == 0 && usB false false false true D S O M) = true then 6 else if (S == 1 && usB false true false true D S O M) = true then 7 else 0)
  | wide (h : ∀ D S O M, kindF op D S O M = if (D != 10 && (decide (S ≤ 2) && usB true true false true D S O M)) = true then 9 else 0)
theorem shape : Shape op := by
  by_cases c56 : op % 8 = 5 ∨ op % 8 = 6
  · have hk : ∀ D S O M, kindF op D S O M = jumpF (op / 16) (op % 8) (xB op) D S O M := fun D S O M => by unfold kindF; rw [if_pos c56]
    cases ha : asksB (op / 16)
    · by_cases h0 : op / 16 = 0
      · cases hx : (op % 8 != 5 || xB op)
        · exact .one 10 false false true false false (by decide) (fun D S O M => by rw [hk, h0, j_0, hx]; simp) (by simp) (by simp) (by simp) (by simp)
        · exact .none fun D S O M => by rw [hk, h0, j_0, hx]; simp
      by_cases h9 : op / 16 = 9
      · cases hx : (op % 8 != 5 || xB op)
        · exact .one 8 false false false false false (by decide) (fun D S O M => by rw [hk, h9, j_9, hx]; simp) (by simp) (by simp) (by simp) (by simp)
        · exact .none fun D S O M => by rw [hk, h9, j_9, hx]; simp
      by_cases h8 : op / 16 = 8
      · cases hx : (op % 8 != 5 || xB op)
        · exact .call fun D S O M => by rw [hk, h8, j_8, hx]; simp
        · exact .none fun D S O M => by rw [hk, h8, j_8, hx]; simp
      exact .none fun D S O M => by rw [hk, j_else D S O M _ _ _ ha h0 h9 h8]
    · refine .one 5 true (xB op) true (!(xB op)) false (by decide) (fun D S O M => by rw [hk, j_asks D S O M _ _ _ ha]; simp) (by decide) (by simp) (by simp) (by simp)
  by_cases c47 : op % 8 = 4 ∨ op % 8 = 7
  · by_cases h8 : op / 16 = 8
    · cases hx : xB op
      · refine .one 1 true false false false true (by decide) (fun D S O M => by unfold kindF; rw [if_neg c56, if_pos c47]; simp [h8, hx]) (by decide) (by simp [h8]) (by simp [hx]) (by simp)
      · exact .none fun D S O M => by unfold kindF; rw [if_neg c56, if_pos c47]; simp [h8, hx]
    · by_cases h12 : op / 16 ≤ 12
      · refine .one 1 true (xB op) false (!(xB op)) true (by decide) (fun D S O M => by unfold kindF; rw [if_neg c56, if_pos c47]; simp [h8, h12]) (by decide) (by simp [h8]) (by simp) (by simp)
      · exact .none fun D S O M => by unfold kindF; rw [if_neg c56, if_pos c47]; simp [h8, h12]
  by_cases c1 : op % 8 = 1
  · cases hm : memB op
    · exact .none fun D S O M => by unfold kindF; rw [if_neg c56, if_neg c47, if_pos c1, hm]; simp
    · exact .one 2 true true true false true (by decide) (fun D S O M => by unfold kindF; rw [if_neg c56, if_neg c47, if_pos c1, hm]; simp) (by simp) (by simp) (by simp) (by simp)
  by_cases c2 : op % 8 = 2
  · cases hm : memB op
    · exact .none fun D S O M => by unfold kindF; rw [if_neg c56, if_neg c47, if_neg c1, if_pos c2, hm]; simp
    · exact .one 3 true false true true false (by decide) (fun D S O M => by unfold kindF; rw [if_neg c56, if_neg c47, if_neg c1, if_pos c2, hm]; simp) (by simp) (by simp) (by simp) (by simp)
  by_cases c3 : op % 8 = 3
  · cases hm : memB op
    · exact .none fun D S O M => by unfold kindF; rw [if_neg c56, if_neg c47, if_neg c1, if_neg c2, if_pos c3, hm]; simp
    · exact .one 4 true true true false false (by decide) (fun D S O M => by unfold kindF; rw [if_neg c56, if_neg c47, if_neg c1, if_neg c2, if_pos c3, hm]; simp) (by simp) (by simp) (by simp) (by simp)
  cases h24 : (op == 24)
  · exact .none fun D S O M => by unfold kindF; rw [if_neg c56, if_neg c47, if_neg c1, if_neg c2, if_neg c3, h24]; simp
  · exact .wide fun D S O M => by unfold kindF; rw [if_neg c56, if_neg c47, if_neg c1, if_neg c2, if_neg c3, h24]; simp
end
end Go.Proofs.Ytibghcmkmbamjaa.PI
