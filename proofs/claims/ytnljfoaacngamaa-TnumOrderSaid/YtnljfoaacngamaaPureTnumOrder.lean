/- Plain: what is done with lesser sets is a lesser set. -/
import Derived.Test.YtnljfoaacngamaaBrOps
import Derived.Test.YtnljfoaacngamaaMath2
import Derived.Test.YtnljfoaacngamaaPDx16
set_option linter.unusedVariables false
set_option linter.unusedSimpArgs false
namespace Go.Proofs.Ytnljfoaacngamaa.Pure
open Go.Proofs.Ytnljfoaacngamaa.TM (W T I I_and I_or I_xor I_andNot I_add I_sub I_mul I_shl I_shr I_sar I_beq I_beq0 I_eq0 I_inj I_lo I_hi May Has In)
open Go.Proofs.Ytnljfoaacngamaa.PD Go.Proofs.Ytnljfoaacngamaa.BR Go.RowKit Go.Proofs.YtnljfoaacngamaaW.PrintWords
theorem bs {α β : Type} (x : α) (f : α → Option β) : (some x).bind f = f x := by
  cases h : (some x).bind f with
  | none => exact h.symm
  | some y => exact h.symm
theorem tr {p : Prop} [Decidable p] (h : p) : decide p = true := decide_eq_true h
theorem eqT {s t : T} (h : s = t) : (I s.v == I t.v && (I s.m == I t.m)) = true := by subst h; simp
theorem neT {s t : T} (h : s = t) : (!(I s.v == I t.v) || (!(I s.m == I t.m))) = false := by subst h; simp
theorem cst (x : W) : tnum_Const.f (I x) = some (I (⟨x, 0#64⟩ : T).v, I (⟨x, 0#64⟩ : T).m) := rfl
theorem j2_true (v w : W) (k : Nat) (hk : 130 ≤ k) : wardenlaw03_TnumOrder.j2 (k + 1) (I v) (I w) false = some true := by
  simp only [wardenlaw03_TnumOrder.j2]
  rw [if_neg (by decide), I_mul, I_sub, I_add, cst, cst, cst, cst, cst]
  simp only [bs]
  rw [mul_eq (TM.may_const v) ⟨w, 0#64⟩ hk, sub_eq ⟨v, 0#64⟩ ⟨w, 0#64⟩, add_eq ⟨v, 0#64⟩ ⟨w, 0#64⟩]
  simp only [bs]
  rw [if_pos (eqT (TM.mul_const v w)), if_pos (eqT (TM.sub_const v w)), if_pos (eqT (TM.add_const v w)), works_eq]
  rfl
theorem j1_true (v w : W) (s : Int) (hs : 0 ≤ s) {a c d : T} (hc : May c) (h1 : In c a) (k : Nat) (hk : 130 ≤ k) :
    wardenlaw03_TnumOrder.j1 (k + 2) (I v) (I w) s false (I a.v) (I a.m) (I c.v) (I c.m) (I d.v) (I d.m) = some true := by
  simp only [wardenlaw03_TnumOrder.j1]
  rw [if_neg (by decide), shl_eq c s hs, shl_eq a s hs, sar_eq c s hs, sar_eq a s hs, join_eq]
  simp only [bs]
  rw [in_eq, tr (TM.shl_in s.toNat h1), in_eq, tr (TM.sar_in s.toNat h1), in_eq, tr (TM.in_join hc)]
  simp only [bs, if_true, Bool.not_true]
  exact j2_true v w k hk
theorem j0_true (v w : W) (s : Int) {a b c d : T} (ha : May a) (hb : May b) (hc : May c) (hd : May d) (h1 : In c a) (h2 : In d b) (k : Nat) (hk : 130 ≤ k) :
    wardenlaw03_TnumOrder.j0 (k + 3) (I v) (I w) s false (I a.v) (I a.m) (I b.v) (I b.m) (I c.v) (I c.m) (I d.v) (I d.m) = some true := by
  simp only [wardenlaw03_TnumOrder.j0]
  rw [if_neg (by decide), add_eq c d, add_eq a b, sub_eq c d, sub_eq a b, and_eq c d, and_eq a b, or_eq c d, or_eq a b, xor_eq c d, xor_eq a b]
  simp only [bs]
  rw [in_eq, tr (TM.add_in ha hb hc hd h1 h2), in_eq, tr (TM.sub_in ha hb hc hd h1 h2), in_eq, tr (TM.and_in ha hb hc hd h1 h2), in_eq, tr (TM.or_in ha hb hc hd h1 h2), in_eq, tr (TM.xor_in ha hb hc hd h1 h2)]
  simp only [bs, if_true, Bool.not_true]
  exact j1_true v w _ (by rw [IntKind.wrap_u64]; omega) hc h1 k hk
theorem TnumOrder : wardenlaw03_TnumOrder.Pure := by
  intro a0 a1 a2 a3 a4 a5 a6 w0 w1 w2 w3 w4 w5 w6
  obtain ⟨v, rfl⟩ := TM.of_wf w0
  obtain ⟨m, rfl⟩ := TM.of_wf w1
  obtain ⟨w, rfl⟩ := TM.of_wf w2
  obtain ⟨n, rfl⟩ := TM.of_wf w3
  obtain ⟨x, rfl⟩ := TM.of_wf w4
  obtain ⟨y, rfl⟩ := TM.of_wf w5
  refine ⟨200 + 3, ?_⟩
  unfold wardenlaw03_TnumOrder.f
  rw [of_eq v m, of_eq w n, I_and, I_and]
  simp only [bs]
  have ha := TM.may_mk v m
  have hb := TM.may_mk w n
  have em : m = (TM.mk v m).m := rfl
  have en : n = (TM.mk w n).m := rfl
  rw [some_eq (TM.mk v m) x, some_eq (TM.mk w n) y]
  simp only [bs]
  rw [of_eq, of_eq]
  simp only [bs]
  have h1 : In (TM.mk ((TM.mk v m).v ||| (x &&& (TM.mk v m).m)) (m &&& x)) (TM.mk v m) := TM.some_in ha x
  have h2 : In (TM.mk ((TM.mk w n).v ||| (y &&& (TM.mk w n).m)) (n &&& y)) (TM.mk w n) := TM.some_in hb y
  have hc := TM.may_mk ((TM.mk v m).v ||| (x &&& (TM.mk v m).m)) (m &&& x)
  have hd := TM.may_mk ((TM.mk w n).v ||| (y &&& (TM.mk w n).m)) (n &&& y)
  generalize TM.mk ((TM.mk v m).v ||| (x &&& (TM.mk v m).m)) (m &&& x) = c at *
  generalize TM.mk ((TM.mk w n).v ||| (y &&& (TM.mk w n).m)) (n &&& y) = d at *
  clear em en
  generalize TM.mk v m = a at *
  generalize TM.mk w n = b at *
  rw [in_eq, tr h1, in_eq, tr h2]
  simp only [bs, if_true, Bool.not_true]
  exact j0_true v w a6 ha hb hc hd h1 h2 200 (by omega)
end Go.Proofs.Ytnljfoaacngamaa.Pure
