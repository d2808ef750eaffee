/- Plain: shifts up and down again, and one behind the other. -/
import Derived.Test.YtnljfoaacngamaaBr
import Derived.Test.YtnljfoaacngamaaMath2
import Derived.Test.YtnljfoaacngamaaPDx11
set_option linter.unusedVariables false
set_option linter.unusedSimpArgs false
namespace Go.Proofs.Ytnljfoaacngamaa.Pure
open Go.Proofs.Ytnljfoaacngamaa.TM (W T I I_and I_or I_xor I_andNot I_add I_sub I_mul I_shl I_shr I_sar I_beq I_beq0 I_eq0 I_inj I_lo I_hi May Has In)
open Go.Proofs.Ytnljfoaacngamaa.PD Go.Proofs.Ytnljfoaacngamaa.BR Go.RowKit Go.Proofs.YtnljfoaacngamaaW.PrintWords
theorem bs {α β : Type} (x : α) (f : α → Option β) : (some x).bind f = f x := by
  cases h : (some x).bind f with
  | none => exact h.symm
  | some y => exact h.symm
theorem tr {p : Prop} [Decidable p] (h : p) : decide p = true := decide_eq_true h
theorem eqT {s t : T} (h : s = t) : (I s.v == I t.v && (I s.m == I t.m)) = true := by subst h; simp
theorem neT {s t : T} (h : s = t) : (!(I s.v == I t.v) || (!(I s.m == I t.m))) = false := by subst h; simp
theorem shlN (t : T) (n : Nat) : tnum_Shl.f (I t.v) (I t.m) (n : Int) = some (I (TM.shl t n).v, I (TM.shl t n).m) := by
  have := shl_eq t (n : Int) (by omega)
  rwa [Int.toNat_natCast] at this
theorem shrN (t : T) (n : Nat) : tnum_Shr.f (I t.v) (I t.m) (n : Int) = some (I (TM.shr t n).v, I (TM.shr t n).m) := by
  have := shr_eq t (n : Int) (by omega)
  rwa [Int.toNat_natCast] at this
theorem sarN (t : T) (n : Nat) : tnum_Sar.f (I t.v) (I t.m) (n : Int) = some (I (TM.sar t n).v, I (TM.sar t n).m) := by
  have := sar_eq t (n : Int) (by omega)
  rwa [Int.toNat_natCast] at this
theorem lowN (t : T) (n : Nat) : tnum_Low.f (I t.v) (I t.m) (n : Int) = some (I (TM.low t n).v, I (TM.low t n).m) := by
  have := low_eq t (n : Int) (by omega)
  rwa [Int.toNat_natCast] at this
theorem sumN (s t : Nat) (hs : s < 64) (ht : t < 64) : IntKind.u64.wrap ((s : Int) + (t : Int)) = ((s + t : Nat) : Int) := by rw [IntKind.wrap_u64]; omega
theorem minN (s t : Nat) : mn (s : Int) (t : Int) = ((min s t : Nat) : Int) := by
  unfold mn
  split <;> omega
theorem j0_true {a : T} (s t : Nat) (hs : s < 64) (ht : t < 64) (k : Nat) : wardenlaw03_TnumShifts.j0 (k + 1) (s : Int) (t : Int) false (I a.v) (I a.m) = some true := by
  simp only [wardenlaw03_TnumShifts.j0]
  rw [if_neg (by decide), sumN s t hs ht, minN s t, shlN a s, shlN a (s + t), shrN a s, shrN a (s + t), sarN a s, sarN a (s + t), lowN a s, lowN a (min s t)]
  simp only [bs]
  rw [shlN (TM.shl a s) t, shrN (TM.shr a s) t, sarN (TM.sar a s) t, lowN (TM.low a s) t]
  simp only [bs]
  rw [TM.shl_shl, TM.shr_shr, TM.sar_sar, TM.low_low, if_pos (eqT rfl), if_pos (eqT rfl), if_pos (eqT rfl), if_pos (eqT rfl), works_eq]
  simp only [bs]
theorem cnt {x : Int} (h : (Lit.int .u8 x).wf = true) : ∃ n : Nat, n < 64 ∧ IntKind.u64.wrap (Int.tmod x 64) = (n : Int) := by
  have hw : IntKind.u8.min ≤ x ∧ x ≤ IntKind.u8.max := by simpa [Lit.wf] using h
  have h1 : IntKind.u8.min = 0 := by decide
  have h2 : IntKind.u8.max = 255 := by decide
  refine ⟨(x % 64).toNat, by omega, ?_⟩
  rw [Int.tmod_eq_emod_of_nonneg (by omega), IntKind.wrap_u64]
  omega
theorem TnumShifts : wardenlaw03_TnumShifts.Pure := by
  intro a0 a1 a2 a3 w0 w1 w2 w3
  obtain ⟨v, rfl⟩ := TM.of_wf w0
  obtain ⟨m, rfl⟩ := TM.of_wf w1
  obtain ⟨s, hs, es⟩ := cnt w2
  obtain ⟨t, ht, et⟩ := cnt w3
  refine ⟨5 + 1, ?_⟩
  unfold wardenlaw03_TnumShifts.f
  have e : IntKind.u64.wrap (64 - (s : Int)) = ((64 - s : Nat) : Int) := by rw [IntKind.wrap_u64]; omega
  rw [of_eq, es, et, e]
  simp only [bs]
  have ha := TM.may_mk v m
  generalize TM.mk v m = a at *
  have ek : shl .u64 18446744073709551615 (s : Int) = I (BitVec.allOnes 64 <<< s) := by
    have := I_shl (BitVec.allOnes 64) (s : Int) (by omega)
    rw [Int.toNat_natCast] at this
    rw [← this, ← TM.I_all]
  rw [shlN a s, shrN a s, lowN a (64 - s), ek, const_eq]
  simp only [bs]
  rw [shrN (TM.shl a s) s, shlN (TM.shr a s) s, and_eq a ⟨BitVec.allOnes 64 <<< s, 0#64⟩]
  simp only [bs]
  rw [TM.shl_shr hs, TM.shr_shl ha hs, neT rfl, neT rfl, if_neg (by decide), if_pos (by omega)]
  exact j0_true s t hs ht 5
end Go.Proofs.Ytnljfoaacngamaa.Pure
