/- Instructions in plain words: which fields are used, kinds, sizes; the program and the document's answer say the same. -/
import Derived.Test.YtibghcmkmbamjaaPIx8
import Derived.Test.YtibghcmkmbamjaaPIx13
namespace Go.Proofs.Ytibghcmkmbamjaa.PI
open Go.RowKit Go.Proofs.YtibghcmkmbamjaaW.PrintWords Go.Proofs.YtibghcmkmbamjaaW.PrintLast Go.Proofs.YtibghcmkmbamjaaW.PrintMore
set_option linter.unusedVariables false
set_option linter.unusedSimpArgs false
theorem bsome {α β : Type} (a : α) (f : α → Option β) : (some a).bind f = f a := by cases h : f a <;> simp [h]
def xB (op : Int) : Bool := Go.bits .and .u8 op 8 != 0
def memB (op : Int) : Bool := Go.bits .and .u8 op 224 == 96
theorem uses_eq (k : Nat) (op D S O M : Int) (l : List Int) (d s o m : Bool) (hd : (Go.bits .and .i64 (usesOr l) 1 != 0) = d) (hs : (Go.bits .and .i64 (usesOr l) 2 != 0) = s) (ho : (Go.bits .and .i64 (usesOr l) 4 != 0) = o) (hm : (Go.bits .and .i64 (usesOr l) 8 != 0) = m) :
    insn_uses.f k op D S O M l = some (usB d s o m D S O M) := by
  unfold insn_uses.f usesB usB
  rw [hd, hs, ho, hm]
theorem and7 (op : Int) (h0 : 0 ≤ op) (h1 : op ≤ 255) : Go.bits .and .u8 op 7 = op % 8 := by
  have key : ∀ n : Fin 256, Go.bits .and .u8 (n.val : Int) 7 = (n.val : Int) % 8 := by decide +kernel
  have := key ⟨op.toNat, by omega⟩
  simpa [Int.toNat_of_nonneg h0] using this
def asksB (c : Int) : Bool := decide (0 < c) && decide (c ≤ 13) && (c != 8) && (c != 9)
def jumpF (c cl : Int) (x : Bool) (D S O M : Int) : Int :=
  if (asksB c && usB true x true (!x) D S O M) = true then 5
  else if (cl != 5 || x) = true then 0
  else if (c == 0 && usB false false true false D S O M) = true then 10
  else if (c == 9 && usB false false false false D S O M) = true then 8
  else if (c == 8 && (S == 0 && usB false false false true D S O M)) = true then 6
  else if (c == 8 && (S == 1 && usB false true false true D S O M)) = true then 7
  else 0
theorem asks_eq (c : Int) : insn_asks.f c = some (asksB c) := by
  unfold insn_asks.f asksB
  by_cases h1 : c > 0 <;> by_cases h2 : c ≤ 13 <;> by_cases h3 : c = 8 <;> simp [h1, h2, h3] <;> omega
theorem usB_S0 (S : Int) (d s o m : Bool) (D O M : Int) (h : S = 0) : usB d s o m D S O M = usB d false o m D S O M := by
  subst h
  cases s <;> simp [usB]
section
variable (k : Nat) (op D S O M : Int) (h0 : 0 ≤ op) (h1 : op ≤ 255)
theorem second_eq : insn_second.f op D S O M = some (if xB op then 2 else 8) := by
  unfold insn_second.f insn_bitX.f
  rw [bsome]
  unfold xB
  split <;> rfl
theorem uses_second (b : Bool) (l : List Int) (hl : l = [1, 4, if b then 2 else 8]) : insn_uses.f k op D S O M l = some (usB true b true (!b) D S O M) := by
  subst hl
  cases b <;> exact uses_eq k op D S O M _ _ _ _ _ (by decide) (by decide) (by decide) (by decide)
include h0 h1 in
theorem class_eq : insn_class.f op D S O M = some (op % 8) := by
  unfold insn_class.f
  rw [and7 op h0 h1]
theorem jump_eq (cl : Int) (hc : insn_class.f op D S O M = some cl) : insn_jump.f (k + 6) op D S O M = some (jumpF (op / 16) cl (xB op) D S O M) := by
  have u1 := uses_second (k + 6) op D S O M (xB op) _ rfl
  have u2 := fun k => uses_eq k op D S O M [4] false false true false (by decide) (by decide) (by decide) (by decide)
  have u3 := fun k => uses_eq k op D S O M [] false false false false (by decide) (by decide) (by decide) (by decide)
  have u4 := fun k => uses_eq k op D S O M [8] false false false true (by decide) (by decide) (by decide) (by decide)
  have u5 := fun k => uses_eq k op D S O M [2, 8] false true false true (by decide) (by decide) (by decide) (by decide)
  have hb : insn_bitX.f op D S O M = some (xB op) := rfl
  have hcd : insn_Code.f op D S O M = some (op / 16) := rfl
  unfold insn_jump.f
  rw [hcd, bsome, asks_eq, bsome, second_eq, bsome]
  generalize op / 16 = c
  have hj0 : ∀ (b : Bool), insn_jump.j0 (k + 6) c b op D S O M = some (if b = true then 5 else if (cl != 5 || xB op) = true then 0
      else if (c == 0 && usB false false true false D S O M) = true then 10
      else if (c == 9 && usB false false false false D S O M) = true then 8
      else if (c == 8 && (S == 0 && usB false false false true D S O M)) = true then 6
      else if (c == 8 && (S == 1 && usB false true false true D S O M)) = true then 7
      else 0) := by
    intro b
    simp only [insn_jump.j0]
    rw [hc, bsome, hb, bsome]
    cases b
    · by_cases c5 : cl = 5
      · cases xB op
        · simp only [insn_jump.j1]
          rw [u2, bsome]
          by_cases e0 : c = 0
          · subst e0
            simp only [insn_jump.j2]
            cases usB false false true false D S O M
            · simp [c5]
              simp only [insn_jump.j3]
              simp
              simp only [insn_jump.j4]
              simp
            · simp [c5]
          · simp only [insn_jump.j2]
            rw [u3, bsome]
            by_cases e9 : c = 9
            · subst e9
              simp only [insn_jump.j3]
              cases usB false false false false D S O M
              · simp [c5]
                simp only [insn_jump.j4]
                simp
              · simp [c5]
            · simp only [insn_jump.j3]
              rw [u4, bsome]
              by_cases e8 : c = 8
              · subst e8
                simp only [insn_jump.j4]
                rw [u5, bsome]
                by_cases s0 : S = 0
                · subst s0
                  cases usB false false false true D 0 O M <;> simp [c5]
                · by_cases s1 : S = 1
                  · subst s1
                    cases usB false true false true D 1 O M <;> simp [c5]
                  · simp [c5, s0, s1]
              · simp only [insn_jump.j4]
                simp [c5, e0, e9, e8]
        · simp only [insn_jump.j1]
          simp [c5]
      · simp only [insn_jump.j1]
        simp [c5]
    · simp
  unfold jumpF
  cases asksB c
  · simp only [Bool.false_eq_true, if_false, Bool.false_and]
    rw [hj0]
    simp
  · simp only [if_true, Bool.true_and]
    rw [u1, bsome, hj0]
/-- An instruction's kind. -/
def kindF (op D S O M : Int) : Int :=
  if op % 8 = 5 ∨ op % 8 = 6 then jumpF (op / 16) (op % 8) (xB op) D S O M
  else if op % 8 = 4 ∨ op % 8 = 7 then (if (D != 10 && (if op / 16 = 8 then !(xB op) && usB true false false false D S O M else decide (op / 16 ≤ 12) && usB true (xB op) false (!(xB op)) D S O M)) = true then 1 else 0)
  else if op % 8 = 1 then (if (memB op && (D != 10 && usB true true true false D S O M)) = true then 2 else 0)
  else if op % 8 = 2 then (if (memB op && usB true false true true D S O M) = true then 3 else 0)
  else if op % 8 = 3 then (if (memB op && usB true true true false D S O M) = true then 4 else 0)
  else (if (op == 24 && (D != 10 && (decide (S ≤ 2) && usB true true false true D S O M))) = true then 9 else 0)
theorem reckons_eq : insn_reckons.f k op D S O M = some (if op / 16 = 8 then !(xB op) && usB true false false false D S O M else decide (op / 16 ≤ 12) && usB true (xB op) false (!(xB op)) D S O M) := by
  have hb : insn_bitX.f op D S O M = some (xB op) := rfl
  have hcd : insn_Code.f op D S O M = some (op / 16) := rfl
  have u1 := fun k => uses_eq k op D S O M [1] true false false false (by decide) (by decide) (by decide) (by decide)
  have u2 : insn_uses.f k op D S O M [1, if xB op then 2 else 8] = some (usB true (xB op) false (!(xB op)) D S O M) := by
    cases xB op <;> exact uses_eq k op D S O M _ _ _ _ _ (by decide) (by decide) (by decide) (by decide)
  unfold insn_reckons.f
  rw [hcd, bsome, bsome, hb, bsome, second_eq, bsome, u1, bsome, u2, bsome]
  by_cases e8 : op / 16 = 8
  · simp only [e8, if_true]
    cases xB op <;> simp
  · simp only [e8, if_false]
    by_cases e12 : op / 16 ≤ 12
    · simp [e12]
    · simp [e12]
include h0 h1 in
theorem Kind_eq : insn_Kind.f (k + 7) op D S O M = some (kindF op D S O M) := by
  have u1 := fun k => uses_eq k op D S O M [1, 2, 4] true true true false (by decide) (by decide) (by decide) (by decide)
  have u2 := fun k => uses_eq k op D S O M [1, 4, 8] true false true true (by decide) (by decide) (by decide) (by decide)
  have u3 := fun k => uses_eq k op D S O M [1, 2, 8] true true false true (by decide) (by decide) (by decide) (by decide)
  have hc := class_eq op D S O M h0 h1
  have hj := jump_eq k op D S O M _ hc
  unfold insn_Kind.f
  rw [hc, bsome]
  simp only [insn_Kind.j0, insn_Kind.j1, insn_Kind.j2]
  simp only [hj, bsome, reckons_eq, u1, u2, u3]
  unfold kindF
  have hm : (Go.bits .and .u8 op 224 = 96) ↔ memB op = true := by unfold memB; simp
  simp only [hm]
  generalize (if op / 16 = 8 then !(xB op) && usB true false false false D S O M else decide (op / 16 ≤ 12) && usB true (xB op) false (!(xB op)) D S O M) = rk
  generalize jumpF (op / 16) (op % 8) (xB op) D S O M = jf
  generalize memB op = mb
  generalize usB true true true false D S O M = v1
  generalize usB true false true true D S O M = v2
  generalize usB true true false true D S O M = v3
  by_cases c5 : op % 8 = 5
  · simp [c5]
  by_cases c6 : op % 8 = 6
  · simp [c6]
  by_cases c4 : op % 8 = 4
  · by_cases d10 : D = 10 <;> cases rk <;> simp [c4, d10]
  by_cases c7 : op % 8 = 7
  · by_cases d10 : D = 10 <;> cases rk <;> simp [c7, d10]
  by_cases c1 : op % 8 = 1
  · by_cases d10 : D = 10 <;> cases mb <;> cases v1 <;> simp [c1, d10]
  by_cases c2 : op % 8 = 2
  · cases mb <;> cases v2 <;> simp [c2]
  by_cases c3 : op % 8 = 3
  · cases mb <;> cases v1 <;> simp [c3]
  by_cases o24 : op = 24 <;> by_cases d10 : D = 10 <;> by_cases s2 : S ≤ 2 <;> cases v3 <;> simp [c5, c6, c4, c7, c1, c2, c3, o24, d10, s2]
end
end Go.Proofs.Ytibghcmkmbamjaa.PI
