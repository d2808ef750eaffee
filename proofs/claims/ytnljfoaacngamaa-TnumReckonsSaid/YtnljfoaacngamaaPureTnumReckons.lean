/- Plain: what sums, differences, products, bits taken together, and shifts of tnums are. -/
import Derived.Test.YtnljfoaacngamaaBrRef2
import Derived.Test.YtnljfoaacngamaaPDx14
set_option linter.unusedVariables false
set_option linter.unusedSimpArgs false
namespace Go.Proofs.Ytnljfoaacngamaa.Pure
open Go.Proofs.Ytnljfoaacngamaa.TM (W T I I_and I_or I_xor I_andNot I_add I_sub I_mul I_shl I_shr I_sar I_beq I_beq0 I_eq0 I_inj I_lo I_hi May Has In)
open Go.Proofs.Ytnljfoaacngamaa.PD Go.Proofs.Ytnljfoaacngamaa.BR Go.RowKit Go.Proofs.YtnljfoaacngamaaW.PrintWords
theorem tr {p : Prop} [Decidable p] (h : p) : decide p = true := decide_eq_true h
theorem eqT (x y : Int) : (x == x && (y == y)) = true := by simp
theorem eqB (b : Bool) : (b == b) = true := by simp
theorem j1_true {a : T} (ha : May a) (s : Int) (hs : 0 ≤ s) (k : Nat) (hk : 200 ≤ k) : wardenlaw03_TnumReckons.j1 (k + 1) s true true (I a.v) (I a.m) = some true := by
  simp only [wardenlaw03_TnumReckons.j1]
  rw [shl_eq a s hs, refShl ha s hs hk, shr_eq a s hs, refShr ha s hs hk, sar_eq a s hs, refSar ha s hs hk]
  simp only [bs]
  rw [if_pos (eqT _ _), if_pos (eqT _ _), if_pos trivial, if_pos trivial, if_pos (eqT _ _), works_eq, bs]
theorem j0_true {a b : T} (ha : May a) (hb : May b) (s : Int) (hs : 0 ≤ s) (k : Nat) (hk : 200 ≤ k) : wardenlaw03_TnumReckons.j0 (k + 2) s true (I a.v) (I a.m) (I b.v) (I b.m) = some true := by
  simp only [wardenlaw03_TnumReckons.j0]
  rw [and_eq, or_eq, xor_eq, refAnd ha hb (show 200 ≤ k + 1 by omega), refOr ha hb (show 200 ≤ k + 1 by omega), refXor ha hb (show 200 ≤ k + 1 by omega)]
  simp only [bs]
  rw [if_pos (eqT _ _), if_pos (eqT _ _), eqT]
  exact j1_true ha s hs k hk
theorem TnumReckons : wardenlaw03_TnumReckons.Pure := by
  intro a0 a1 a2 a3 a4 w0 w1 w2 w3 w4
  obtain ⟨v, rfl⟩ := TM.of_wf w0
  obtain ⟨m, rfl⟩ := TM.of_wf w1
  obtain ⟨w, rfl⟩ := TM.of_wf w2
  obtain ⟨n, rfl⟩ := TM.of_wf w3
  have hs : 0 ≤ IntKind.u64.wrap a4 := by rw [IntKind.wrap_u64]; omega
  refine ⟨300 + 2, ?_⟩
  unfold wardenlaw03_TnumReckons.f
  rw [of_eq, of_eq]
  simp only [bs]
  have ha := TM.may_mk v m
  have hb := TM.may_mk w n
  generalize TM.mk v m = a at *
  generalize TM.mk w n = b at *
  rw [add_eq, refAdd, sub_eq, refSub, mul_eq ha b (by omega), refMul a b (by omega)]
  simp only [bs]
  rw [if_pos (eqT _ _), if_pos (eqT _ _), eqT]
  exact j0_true ha hb _ hs 300 (by omega)
end Go.Proofs.Ytnljfoaacngamaa.Pure
