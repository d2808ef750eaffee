/- Plain: whatever is done with two numbers of two tnums is a number of what is done with the tnums. -/
import Derived.Test.YtnljfoaacngamaaBr
import Derived.Test.YtnljfoaacngamaaPDx18
set_option linter.unusedVariables false
set_option linter.unusedSimpArgs false
namespace Go.Proofs.Ytnljfoaacngamaa.Pure
open Go.Proofs.Ytnljfoaacngamaa.TM (W T I I_and I_or I_xor I_andNot I_add I_sub I_mul I_shl I_shr I_sar I_beq I_beq0 I_eq0 I_inj I_lo I_hi May Has In)
open Go.Proofs.Ytnljfoaacngamaa.PD Go.Proofs.Ytnljfoaacngamaa.BR Go.RowKit Go.Proofs.YtnljfoaacngamaaW.PrintWords
theorem bs {α β : Type} (x : α) (f : α → Option β) : (some x).bind f = f x := by
  cases h : (some x).bind f with
  | none => exact h.symm
  | some y => exact h.symm
theorem tr {p : Prop} [Decidable p] (h : p) : decide p = true := decide_eq_true h
theorem mnmx (x y : W) : ∃ lo hi : W, mn (I x) (I y) = I lo ∧ mx (I x) (I y) = I hi ∧ I lo ≤ I hi := by
  unfold mn mx
  by_cases h : I y < I x
  · refine ⟨y, x, by rw [if_pos h], by rw [if_neg (by omega)], by omega⟩
  · by_cases h2 : I x < I y
    · exact ⟨x, y, by rw [if_neg h], by rw [if_pos h2], by omega⟩
    · exact ⟨x, x, by rw [if_neg h], by rw [if_neg h2], by omega⟩
theorem mid (lo hi : W) (h : I lo ≤ I hi) : ∃ m : W, IntKind.u64.wrap (I lo + IntKind.u64.wrap (Int.tdiv (I (hi - lo)) 2)) = I m ∧ lo.toNat ≤ m.toNat ∧ m.toNat ≤ hi.toNat := by
  have h1 := I_lo lo
  have h2 := I_hi hi
  have e : I (hi - lo) = I hi - I lo := by
    rw [← I_sub, IntKind.wrap_u64]
    omega
  rw [e, Int.tdiv_eq_ediv_of_nonneg (by omega), IntKind.wrap_u64, IntKind.wrap_u64]
  refine ⟨BitVec.ofInt 64 (I lo + (I hi - I lo) / 2), ?_⟩
  have e2 : ((BitVec.ofInt 64 (I lo + (I hi - I lo) / 2)).toNat : Int) = I lo + (I hi - I lo) / 2 := by
    rw [BitVec.toNat_ofInt]
    have : (2 : Int) ^ 64 = 18446744073709551616 := by decide
    omega
  have e3 : I (BitVec.ofInt 64 (I lo + (I hi - I lo) / 2)) = I lo + (I hi - I lo) / 2 := e2
  rw [e3]
  have el : (lo.toNat : Int) = I lo := rfl
  have eh : (hi.toNat : Int) = I hi := rfl
  exact ⟨by omega, by omega, by omega⟩
theorem j4_true (x y : W) (k : Nat) : wardenlaw03_TnumSound.j4 (k + 1) (I x) (I y) false = some true := by
  obtain ⟨lo, hi, e1, e2, hle⟩ := mnmx x y
  simp only [wardenlaw03_TnumSound.j4]
  rw [if_neg (by decide), e1, e2, range_eq k lo hi (by omega)]
  simp only [bs, I_sub]
  obtain ⟨m, em, m1, m2⟩ := mid lo hi hle
  have hl := len_lt lo hi
  have el : (lo.toNat : Int) = I lo := rfl
  have eh : (hi.toNat : Int) = I hi := rfl
  rw [em, has_eq, has_eq, has_eq, tr (TM.range_has hl (Nat.le_refl _) (by omega)), tr (TM.range_has hl (by omega) (Nat.le_refl _)), tr (TM.range_has hl m1 m2), works_eq]
  rfl
theorem j3_true (x y p : W) (n : Int) (low : W) (a b : T) (ha : May a) (hb : May b) (hp : Has a p) (hn : 0 ≤ n) (hlow : low = p &&& TM.lows n.toNat) (k : Nat) :
    wardenlaw03_TnumSound.j3 (k + 2) (I x) (I y) (I p) n (I low) (I a.v) (I a.m) (I b.v) (I b.m) = some true := by
  subst hlow
  simp only [wardenlaw03_TnumSound.j3]
  rw [low_eq a n hn]
  simp only [bs]
  rw [has_eq, tr (TM.low_has n.toNat hp)]
  simp only [bs, if_true]
  rw [meet_eq, has_eq]
  have hm := TM.meet_has ha hb hp
  by_cases h : TM.meets a b
  · rw [if_pos h]
    simp only [bs, if_true]
    rw [has_eq]
    simp only [bs]
    have e : (decide (Has b p) != decide (Has (TM.meet a b) p)) = false := by
      have : Has b p ↔ Has (TM.meet a b) p := ⟨fun h' => (hm.1 h').2, fun h' => hm.2 ⟨h, h'⟩⟩
      rw [decide_eq_decide.2 this]
      cases decide (Has (TM.meet a b) p) <;> rfl
    rw [e]
    exact j4_true x y k
  · rw [if_neg h]
    simp only [bs, Bool.false_eq_true, if_false]
    have e : (decide (Has b p) != false) = false := by
      rw [decide_eq_false (fun h' => h (hm.1 h').1)]; rfl
    rw [e]
    exact j4_true x y k
theorem j2_true (x y p : W) (n : Int) (a b : T) (ha : May a) (hb : May b) (hp : Has a p) (hn : 0 ≤ n) (k : Nat) :
    wardenlaw03_TnumSound.j2 (k + 3) (I x) (I y) (I p) n false (I a.v) (I a.m) (I b.v) (I b.m) = some true := by
  simp only [wardenlaw03_TnumSound.j2]
  rw [if_neg (by decide)]
  by_cases h : n < 64
  · rw [if_pos h, if_pos hn]
    have e : IntKind.u64.wrap ((shl .u64 1 n) - 1) = I (TM.lows n.toNat) := by
      rw [show (1 : Int) = I 1#64 from rfl, I_shl _ _ hn, I_sub]
      rfl
    rw [e, I_and]
    exact j3_true x y p n _ a b ha hb hp hn rfl k
  · rw [if_neg h]
    refine j3_true x y p n _ a b ha hb hp hn ?_ k
    apply BitVec.eq_of_getLsbD_eq
    intro i hi
    rw [BitVec.getLsbD_and, TM.lows_bit]
    have : i < n.toNat := by omega
    simp [this, hi]
theorem j1_true (x y p : W) (n : Int) (a b : T) (ha : May a) (hb : May b) (hp : Has a p) (hn : 0 ≤ n) (k : Nat) :
    wardenlaw03_TnumSound.j1 (k + 4) (I x) (I y) (I p) n false (I a.v) (I a.m) (I b.v) (I b.m) = some true := by
  simp only [wardenlaw03_TnumSound.j1]
  rw [if_neg (by decide), shl_eq a n hn, shr_eq a n hn, sar_eq a n hn, I_shl p n hn, I_shr p n hn, I_sar p n hn]
  simp only [bs]
  rw [if_pos hn, has_eq, tr (TM.shl_has n.toNat hp), has_eq, tr (TM.shr_has n.toNat hp), has_eq, tr (TM.sar_has n.toNat hp)]
  simp only [bs, if_true, Bool.not_true]
  exact j2_true x y p n a b ha hb hp hn k
theorem j0_true (x y p q : W) (n : Int) (a b : T) (ha : May a) (hb : May b) (hp : Has a p) (hq : Has b q) (hn : 0 ≤ n) (k : Nat) :
    wardenlaw03_TnumSound.j0 (k + 5) (I x) (I y) (I p) (I q) n false (I a.v) (I a.m) (I b.v) (I b.m) = some true := by
  simp only [wardenlaw03_TnumSound.j0]
  rw [if_neg (by decide), and_eq, or_eq, xor_eq, join_eq, I_and, I_or, I_xor]
  simp only [bs]
  rw [has_eq, tr (TM.and_has hp hq), has_eq, tr (TM.or_has hp hq), has_eq, tr (TM.xor_has hp hq), has_eq, tr (TM.join_has_left ha hp), has_eq, tr (TM.join_has_right ha hq)]
  simp only [bs, if_true, Bool.not_true]
  exact j1_true x y p n a b ha hb hp hn k
theorem has_some (t : T) (ht : May t) (x : W) : Has t (t.v ||| (x &&& t.m)) := by
  rw [TM.has_bits]
  intro i
  have := TM.may_bits.1 ht i
  rw [BitVec.getLsbD_or, BitVec.getLsbD_and]
  revert this
  cases t.v.getLsbD i <;> cases t.m.getLsbD i <;> cases x.getLsbD i <;> simp
theorem TnumSound : wardenlaw03_TnumSound.Pure := by
  intro a0 a1 a2 a3 a4 a5 a6 w0 w1 w2 w3 w4 w5 w6
  obtain ⟨v, rfl⟩ := TM.of_wf w0
  obtain ⟨m, rfl⟩ := TM.of_wf w1
  obtain ⟨w, rfl⟩ := TM.of_wf w2
  obtain ⟨n, rfl⟩ := TM.of_wf w3
  obtain ⟨x, rfl⟩ := TM.of_wf w4
  obtain ⟨y, rfl⟩ := TM.of_wf w5
  have hs : 0 ≤ IntKind.u64.wrap a6 := by
    rw [IntKind.wrap_u64]; omega
  refine ⟨200 + 5, ?_⟩
  unfold wardenlaw03_TnumSound.f
  rw [of_eq, of_eq]
  simp only [bs]
  have ha := TM.may_mk v m
  have hb := TM.may_mk w n
  generalize TM.mk v m = a at *
  generalize TM.mk w n = b at *
  rw [some_eq, some_eq]
  simp only [bs]
  have hp := has_some a ha x
  have hq := has_some b hb y
  generalize a.v ||| (x &&& a.m) = p at *
  generalize b.v ||| (y &&& b.m) = q at *
  rw [has_eq, tr hp, add_eq, sub_eq, mul_eq ha b (by omega), I_add, I_sub, I_mul]
  simp only [bs, if_true]
  rw [has_eq, tr (TM.add_has ha hb hp hq), has_eq, tr (TM.sub_has ha hb hp hq), has_eq, tr (TM.mul_has ha hb hp hq)]
  simp only [bs, if_true, Bool.not_true]
  exact j0_true x y p q _ a b ha hb hp hq hs 200
end Go.Proofs.Ytnljfoaacngamaa.Pure
