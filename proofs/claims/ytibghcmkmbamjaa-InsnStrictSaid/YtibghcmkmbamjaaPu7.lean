/- InsnStrict: plain. -/
import Derived.Test.YtibghcmkmbamjaaPu6
namespace Go.Proofs.Ytibghcmkmbamjaa.PI
open Go.RowKit Go.Proofs.YtibghcmkmbamjaaW.PrintWords Go.Proofs.YtibghcmkmbamjaaW.PrintLast Go.Proofs.YtibghcmkmbamjaaW.PrintMore Go.Proofs.Ytibghcmkmbamjaa
set_option linter.unusedVariables false
set_option linter.unusedSimpArgs false
theorem usB_parts {d s o m : Bool} {D S O M : Int} (h : usB d s o m D S O M = true) : (d || D == 0) = true ∧ (s || S == 0) = true ∧ (o || O == 0) = true ∧ (m || M == 0) = true ∧ decide (D < 11) = true ∧ decide (S < 11) = true := by
  unfold usB at h
  simp only [Bool.and_eq_true] at h
  exact ⟨h.1.1.1.1.1, h.1.1.1.1.2, h.1.1.1.2, h.1.1.2, h.1.2, h.2⟩
theorem usB_O {d s o m : Bool} {D S O M : Int} (h : usB d s o m D S O M = true) (x : Int) : usB d s o m D S x M = (o || x == 0) := by
  obtain ⟨h1, h2, h3, h4, h5, h6⟩ := usB_parts h
  unfold usB
  rw [h1, h2, h4, h5, h6]
  simp
theorem usB_M {d s o m : Bool} {D S O M : Int} (h : usB d s o m D S O M = true) (x : Int) : usB d s o m D S O x = (m || x == 0) := by
  obtain ⟨h1, h2, h3, h4, h5, h6⟩ := usB_parts h
  unfold usB
  rw [h1, h2, h3, h5, h6]
  simp
theorem usB_S {d s o m : Bool} {D S O M : Int} (h : usB d s o m D S O M = true) (x : Int) : usB d s o m D x O M = ((s || x == 0) && decide (x < 11)) := by
  obtain ⟨h1, h2, h3, h4, h5, h6⟩ := usB_parts h
  unfold usB
  rw [h1, h3, h4, h5]
  simp
theorem ite_beq (c : Bool) (T : Int) (hT : T ≠ 0) : ((if c = true then T else 0) == T) = c := by
  cases c
  · simp; exact fun e => hT e.symm
  · simp
/-- With one field changed, it is of its kind just if that field is used. -/
structure SF (op D S O M T off imm src : Int) : Prop where
  a : (kindF op D S off M == T) = ((T == 2 || T == 3 || T == 4 || T == 10 || T == 5) || off == 0)
  b : (kindF op D S O imm == T) = ((T == 3 || T == 6 || T == 7 || T == 9 || T == 5 && !(xB op) || T == 1 && !(xB op) && (op / 16 != 8)) || imm == 0)
  c : (kindF op D src O M == T) = if ((T == 2 || T == 4) || (T == 1 || T == 5) && xB op) = true then decide (src < 11) else if (T == 9) = true then decide (src ≤ 2) else src == S
theorem strict_facts (op D S O M off imm src : Int) (h0 : kindF op D S O M ≠ 0) : SF op D S O M (kindF op D S O M) off imm src := by
  rcases shape op with h | ⟨T, d, s, o, m, nd, hT, h, ho, hm, hs, hT2⟩ | h | h
  · exact absurd (h D S O M) h0
  · have hc : ((!nd || D != 10) && usB d s o m D S O M) = true := by
      cases hc : ((!nd || D != 10) && usB d s o m D S O M)
      · rw [h, hc] at h0
        exact absurd rfl h0
      · rfl
    have hk : kindF op D S O M = T := by rw [h, hc]; rfl
    rw [hk]
    rw [Bool.and_eq_true] at hc
    obtain ⟨hn, hu⟩ := hc
    have hS := (usB_parts hu).2.1
    have t6 : (T == 6) = false := by rcases hT2 with e | e | e | e | e | e | e <;> rw [e] <;> rfl
    have t7 : (T == 7) = false := by rcases hT2 with e | e | e | e | e | e | e <;> rw [e] <;> rfl
    have t9 : (T == 9) = false := by rcases hT2 with e | e | e | e | e | e | e <;> rw [e] <;> rfl
    refine ⟨?_, ?_, ?_⟩
    · rw [h, ite_beq _ _ hT, hn, usB_O hu, ho]
      simp
    · rw [h, ite_beq _ _ hT, hn, usB_M hu, hm, t6, t7, t9]
      simp
    · rw [h, ite_beq _ _ hT, hn, usB_S hu, ← hs, t9]
      cases s
      · have : S = 0 := by simpa using hS
        subst this
        by_cases e : src = 0
        · subst e; simp
        · simp [e]
      · simp
  · by_cases c6 : (S == 0 && usB false false false true D S O M) = true
    · have hk : kindF op D S O M = 6 := by rw [h, if_pos c6]
      rw [Bool.and_eq_true] at c6
      obtain ⟨hs, hu⟩ := c6
      have e : S = 0 := by simpa using hs
      subst e
      rw [hk]
      refine ⟨?_, ?_, ?_⟩
      · rw [h, usB_O hu]
        cases (off == 0) <;> simp
      · rw [h, usB_M hu]
        simp
      · rw [h, usB_S hu]
        by_cases e : src = 0
        · subst e; simp
        · by_cases e1 : src = 1
          · subst e1
            cases usB false true false true D 1 O M <;> simp
          · simp [e, e1]
    · rw [Bool.not_eq_true] at c6
      by_cases c7 : (S == 1 && usB false true false true D S O M) = true
      · have hk : kindF op D S O M = 7 := by rw [h, c6, if_pos c7]; rfl
        rw [Bool.and_eq_true] at c7
        obtain ⟨hs, hu⟩ := c7
        have e : S = 1 := by simpa using hs
        subst e
        rw [hk]
        refine ⟨?_, ?_, ?_⟩
        · rw [h, usB_O hu]
          cases (off == 0) <;> simp
        · rw [h, usB_M hu]
          simp
        · rw [h, usB_S hu]
          by_cases e : src = 1
          · subst e; simp
          · by_cases e1 : src = 0
            · subst e1
              cases usB false false false true D 0 O M <;> simp
            · simp [e, e1]
      · rw [Bool.not_eq_true] at c7
        rw [h, c6, c7] at h0
        exact absurd rfl h0
  · have hc : (D != 10 && (decide (S ≤ 2) && usB true true false true D S O M)) = true := by
      cases hc : (D != 10 && (decide (S ≤ 2) && usB true true false true D S O M))
      · rw [h, hc] at h0
        exact absurd rfl h0
      · rfl
    have hk : kindF op D S O M = 9 := by rw [h, hc]; rfl
    rw [hk]
    rw [Bool.and_eq_true, Bool.and_eq_true] at hc
    obtain ⟨hn, hs, hu⟩ := hc
    refine ⟨?_, ?_, ?_⟩
    · rw [h, ite_beq _ _ (by decide), hn, hs, usB_O hu]
      simp
    · rw [h, ite_beq _ _ (by decide), hn, hs, usB_M hu]
      simp
    · rw [h, ite_beq _ _ (by decide), hn, usB_S hu]
      by_cases e : src ≤ 2
      · have : src < 11 := by omega
        simp [e, this]
      · simp [e]
end Go.Proofs.Ytibghcmkmbamjaa.PI
