/- Kinds: the document's answer is the program's. -/
import Derived.Test.YtibghcmkmbamjaaPu1
import Derived.Test.YtibghcmkmbamjaaPIx15
namespace Go.Proofs.Ytibghcmkmbamjaa.PI
open Go.RowKit Go.Proofs.YtibghcmkmbamjaaW.PrintWords Go.Proofs.YtibghcmkmbamjaaW.PrintLast Go.Proofs.YtibghcmkmbamjaaW.PrintMore
set_option linter.unusedVariables false
set_option linter.unusedSimpArgs false
theorem rasks_eq (c : Int) : wardenref07_asks.f c = some (asksB c) := by
  unfold wardenref07_asks.f asksB
  by_cases h1 : c ≥ 1 <;> by_cases h2 : c ≤ 13 <;> by_cases h3 : c = 8 <;> by_cases h4 : 0 < c <;> simp [h1, h2, h3, h4] <;> omega
section
variable (k : Nat) (op D S O M : Int) (h0 : 0 ≤ op) (h1 : op ≤ 255)
theorem rjump_eq (cl : Int) (hc : wardenref07_class.f op D S O M = some cl) (hcd : wardenref07_Code.f op D S O M = some (op / 16)) : wardenref07_jumps.f (k + 6) op D S O M = some (jumpF (op / 16) cl (xB op) D S O M) := by
  have hb : wardenref07_x.f op D S O M = some (xB op) := rfl
  unfold wardenref07_jumps.f
  rw [hcd, bsome, rasks_eq, bsome, hb, bsome, bsome, is_eq, bsome]
  generalize op / 16 = c
  have hj0 : ∀ (b : Bool), wardenref07_jumps.j0 (k + 6) c b op D S O M = some (if b = true then 5 else if (cl != 5 || xB op) = true then 0
      else if (c == 0 && usB false false true false D S O M) = true then 10
      else if (c == 9 && usB false false false false D S O M) = true then 8
      else if (c == 8 && (S == 0 && usB false false false true D S O M)) = true then 6
      else if (c == 8 && (S == 1 && usB false true false true D S O M)) = true then 7
      else 0) := by
    intro b
    simp only [wardenref07_jumps.j0]
    rw [hc, bsome, hb, bsome]
    cases b
    · by_cases c5 : cl = 5
      · cases xB op
        · simp only [wardenref07_jumps.j1]
          rw [is_eq, bsome]
          by_cases e0 : c = 0
          · subst e0
            simp only [wardenref07_jumps.j2]
            cases usB false false true false D S O M
            · simp [c5]
              simp only [wardenref07_jumps.j3]
              simp
              simp only [wardenref07_jumps.j4]
              simp
            · simp [c5]
          · simp only [wardenref07_jumps.j2]
            rw [is_eq, bsome]
            by_cases e9 : c = 9
            · subst e9
              simp only [wardenref07_jumps.j3]
              cases usB false false false false D S O M
              · simp [c5]
                simp only [wardenref07_jumps.j4]
                simp
              · simp [c5]
            · simp only [wardenref07_jumps.j3]
              rw [is_eq, bsome]
              by_cases e8 : c = 8
              · subst e8
                have hu := usB_S0 S false true false true D O M
                simp only [wardenref07_jumps.j4]
                rw [is_eq, bsome]
                by_cases s0 : S = 0
                · have hu' := hu s0
                  subst s0
                  rw [hu']
                  cases usB false false false true D 0 O M <;> simp [c5]
                · by_cases s1 : S = 1
                  · subst s1
                    cases usB false true false true D 1 O M <;> simp [c5]
                  · cases usB false true false true D S O M <;> simp [c5, s0, s1]
              · simp only [wardenref07_jumps.j4]
                simp [c5, e0, e9, e8]
        · simp only [wardenref07_jumps.j1]
          simp [c5]
      · simp only [wardenref07_jumps.j1]
        simp [c5]
    · simp
  unfold jumpF
  cases asksB c
  · simp only [Bool.false_eq_true, if_false, Bool.false_and]
    rw [hj0]
    simp
  · simp only [if_true, Bool.true_and]
    rw [hj0]
include h0 h1 in
theorem rKind_eq : wardenref07_Kind.f (k + 7) op D S O M = some (kindF op D S O M) := by
  have hc : wardenref07_class.f op D S O M = some (op % 8) := by
    unfold wardenref07_class.f
    rw [Int.tmod_eq_emod_of_nonneg h0]
  have hcd : wardenref07_Code.f op D S O M = some (op / 16) := by
    unfold wardenref07_Code.f
    rw [Int.tdiv_eq_ediv_of_nonneg h0]
    congr 1
    omega
  have hb : wardenref07_x.f op D S O M = some (xB op) := rfl
  have hj := rjump_eq k op D S O M _ hc hcd
  unfold wardenref07_Kind.f
  rw [hc, bsome]
  simp only [wardenref07_Kind.j0]
  simp only [hcd, bsome, hb, is_eq, hj]
  unfold kindF
  have hm : (Go.bits .and .u8 op 224 == 96) = memB op := rfl
  simp only [hm]
  have e12 : (op / 16 > 12) ↔ ¬ op / 16 ≤ 12 := by omega
  simp only [e12]
  generalize op / 16 = c
  generalize jumpF c (op % 8) (xB op) D S O M = jf
  generalize memB op = mb
  generalize usB true true true false D S O M = v1
  generalize usB true false true true D S O M = v2
  generalize usB true true false true D S O M = v3
  generalize xB op = x
  by_cases c4 : op % 8 = 4 ∨ op % 8 = 7
  · have hbb : (if op % 8 = 4 then (op % 8 == 4) else (op % 8 == 7)) = true := by
      rcases c4 with h | h <;> simp [h]
    have n5 : ¬ (op % 8 = 5 ∨ op % 8 = 6) := by omega
    rw [if_neg n5, if_pos c4]
    by_cases e8 : c = 8
    · subst e8
      by_cases d10 : D = 10 <;> cases x <;> rcases c4 with h | h <;> cases hq1 : usB true false false false D S O M <;> simp_all
    · have e8b : (c == 8) = false := by simpa using e8
      simp only [e8b, e8, if_false]
      by_cases d10 : D = 10 <;> by_cases l12 : c ≤ 12 <;> cases x <;> rcases c4 with h | h <;> cases hq2 : usB true true false false D S O M <;> cases hq3 : usB true false false true D S O M <;> simp_all
  · by_cases c1 : op % 8 = 1
    · by_cases d10 : D = 10 <;> cases mb <;> cases v1 <;> simp [c1, d10]
    by_cases c2 : op % 8 = 2
    · cases mb <;> cases v2 <;> simp [c2]
    by_cases c3 : op % 8 = 3
    · cases mb <;> cases v1 <;> simp [c3]
    by_cases c0 : op % 8 = 0
    · by_cases o24 : op = 24 <;> by_cases d10 : D = 10 <;> by_cases s2 : S ≤ 2 <;> cases v3 <;> simp [c0, o24, d10, s2]
    · have c56 : op % 8 = 5 ∨ op % 8 = 6 := by omega
      rw [if_pos c56]
      rcases c56 with h | h <;> simp [h]
end
end Go.Proofs.Ytibghcmkmbamjaa.PI
