/- Plain: which numbers a tnum has, and what is taken together, as the document says it bit by bit. -/
import Derived.Test.YtnljfoaacngamaaBrRef3
import Derived.Test.YtnljfoaacngamaaPDx9
set_option linter.unusedVariables false
set_option linter.unusedSimpArgs false
namespace Go.Proofs.Ytnljfoaacngamaa.Pure
open Go.Proofs.Ytnljfoaacngamaa.TM (W T I I_and I_or I_xor I_andNot I_add I_sub I_mul I_shl I_shr I_sar I_beq I_beq0 I_eq0 I_inj I_lo I_hi May Has In)
open Go.Proofs.Ytnljfoaacngamaa.PD Go.Proofs.Ytnljfoaacngamaa.BR Go.RowKit Go.Proofs.YtnljfoaacngamaaW.PrintWords
theorem tr {p : Prop} [Decidable p] (h : p) : decide p = true := decide_eq_true h
theorem eqT (x y : Int) : (x == x && (y == y)) = true := by simp
theorem eqB (b : Bool) : (b == b) = true := by simp
theorem constT (x : W) : tnum_Const.f (I x) = some (I (⟨x, 0#64⟩ : T).v, I (⟨x, 0#64⟩ : T).m) := rfl
theorem of0 (x : W) : wardenlaw03_of.f (I x) 0 = some (I (⟨x, 0#64⟩ : T).v, I (⟨x, 0#64⟩ : T).m) := by
  have := of_eq x 0#64
  have e : TM.mk x 0#64 = ⟨x, 0#64⟩ := by
    unfold TM.mk
    congr 1
    apply TM.eq_bits
    intro i
    rw [TM.andnot_bit]; simp
  rw [e] at this
  exact this
theorem may_any (v m : W) : tnum_May.f (I v) (I m) = some (Go.bits .and .u64 (I v) (I m) == 0) := rfl
theorem tail_true {a b : T} (ha : May a) (hb : May b) (s : Int) (hs : 0 ≤ s) (x : W) (v w : W) (k : Nat) (hk : 200 ≤ k) (P : Int × Int × Bool) :
    ((tnum_Has.f (I a.v) (I a.m) (I x)).bind fun t242 => ((wardenref03_Has.f k (I a.v) (I a.m) (I x)).bind fun t243 => (if (t242 == t243) = true then ((tnum_In.f (I a.v) (I a.m) (I b.v) (I b.m)).bind fun t244 => ((wardenref03_In.f k (I a.v) (I a.m) (I b.v) (I b.m)).bind fun t245 => (if (t244 == t245) = true then ((tnum_Const.f (I x)).bind fun bt246 => ((wardenlaw03_of.f (I x) 0).bind fun bt248 => (if (bt246.1 == bt248.1 && (bt246.2 == bt248.2)) = true then ((tnum_Range.f k (I v) (I w)).bind fun bt250 => ((wardenref03_Range.f k (I v) (I w)).bind fun bt252 => (if (bt250.1 == bt252.1 && (bt250.2 == bt252.2)) = true then ((tnum_Join.f (I a.v) (I a.m) (I b.v) (I b.m)).bind fun bt254 => ((wardenref03_Bits.f k (I a.v) (I a.m) (I b.v) (I b.m) 0).bind fun bt256 => (if (bt254.1 == bt256.1 && (bt254.2 == bt256.2)) = true then (if (P.1 == P.1 && (P.2.1 == P.2.1)) = true then (if (P.2.2 == P.2.2) = true then ((tnum_Low.f (I a.v) (I a.m) s).bind fun bt258 => ((wardenref03_Low.f k (I a.v) (I a.m) s).bind fun bt260 => (if (bt258.1 == bt260.1 && (bt258.2 == bt260.2)) = true then ((wardenlaw03_works.f k).bind fun t262 => (some t262)) else (some false)))) else (some false)) else (some false)) else (some false)))) else (some false)))) else (some false)))) else (some false)))) else (some false)))) = some true := by
  rw [has_eq, refHas ha x hk, in_eq, refIn ha hb hk, constT, of0, join_eq, refJoin ha hb hk, low_eq a s hs, refLow ha s hs hk]
  simp only [bs]
  rw [if_pos (eqB _), if_pos (eqB _), if_pos (eqT _ _)]
  have e1 : (P.1 == P.1 && (P.2.1 == P.2.1)) = true := by simp
  by_cases h : I v > I w
  · rw [range_eq' k v w h, refRange' k v w h]
    simp only [bs]
    rw [if_pos (eqT _ _), if_pos (eqT _ _), if_pos e1, if_pos (eqB _), if_pos (eqT _ _), works_eq, bs]
  · rw [range_eq k v w h, refRange v w h hk]
    simp only [bs]
    rw [if_pos (eqT _ _), if_pos (eqT _ _), if_pos e1, if_pos (eqB _), if_pos (eqT _ _), works_eq, bs]
theorem TnumSets : wardenlaw03_TnumSets.Pure := by
  intro a0 a1 a2 a3 a4 a5 w0 w1 w2 w3 w4 w5
  obtain ⟨v, rfl⟩ := TM.of_wf w0
  obtain ⟨m, rfl⟩ := TM.of_wf w1
  obtain ⟨w, rfl⟩ := TM.of_wf w2
  obtain ⟨n, rfl⟩ := TM.of_wf w3
  obtain ⟨x, rfl⟩ := TM.of_wf w4
  have hs : 0 ≤ IntKind.u64.wrap a5 := by rw [IntKind.wrap_u64]; omega
  refine ⟨300, ?_⟩
  unfold wardenlaw03_TnumSets.f
  rw [of_eq, of_eq]
  simp only [bs]
  have ha := TM.may_mk v m
  have hb := TM.may_mk w n
  generalize TM.mk v m = a at *
  generalize TM.mk w n = b at *
  rw [meet_eq, refMeet ha hb (by omega), may_eq, tr ha, may_any]
  have hP : ∃ P, (if TM.meets a b then some (I (TM.meet a b).v, I (TM.meet a b).m, true) else some (0, 0, false)) = some P := by
    by_cases h : TM.meets a b
    · exact ⟨_, if_pos h⟩
    · exact ⟨_, if_neg h⟩
  obtain ⟨P, hP⟩ := hP
  rw [hP]
  simp only [bs, if_true]
  rw [if_pos (eqB _)]
  exact tail_true ha hb _ hs x v w 300 (by omega) P
end Go.Proofs.Ytnljfoaacngamaa.Pure
