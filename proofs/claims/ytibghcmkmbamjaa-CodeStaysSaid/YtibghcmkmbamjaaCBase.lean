/- code: kind, size, Callee by their plain words. -/
import Derived.Test.YtibghcmkmbamjaaGPure
import Derived.Test.YtibghcmkmbamjaaGLib
import Derived.WalkKit
import Derived.RegionTactic
import Derived.BigRegion
import Derived.Deep.QuietTactic
import Derived.BigQuiet
import Derived.WalkSpells
import Derived.WalkLawsBesides
import Derived.KernelRfl
import Derived.Outline
import Derived.StillTailTactics
import Derived.Deep.LoopGhost
import Derived.IntWalk
import Derived.Deep.DeepCutAuto
import Derived.Deep.CutBlock
namespace Go.Proofs.Ytibghcmkmbamjaa
open Go.RowKit
set_option linter.unusedVariables false
set_option linter.unusedSimpArgs false
set_option linter.unusedSectionVars false
def encN (i : Ins) : List Value := [.int .u8 i.op, .int .u8 i.D, .int .u8 i.S, .int .i16 i.O, .int .i32 i.M]
def encZi (a : Int) : List Value := [.int .i64 a]
def OkI (i : Ins) : Prop := InsnOk i.op i.D i.S i.O i.M
section
variable {w : World} {A : Option Addr} {l : List Ins}
theorem cellN {i : Nat} {x : Ins} (hr : RowsAt w A 5 (l.map encN)) (hx : l[i]? = some x) : ∃ b off, A = some ⟨b, off, none⟩ ∧ w.cell? ⟨b, off + i * 5, none⟩ = some (.int .u8 x.op) ∧ w.cell? ⟨b, off + i * 5 + 1, none⟩ = some (.int .u8 x.D) ∧ w.cell? ⟨b, off + i * 5 + 2, none⟩ = some (.int .u8 x.S) ∧ w.cell? ⟨b, off + i * 5 + 3, none⟩ = some (.int .i16 x.O) ∧ w.cell? ⟨b, off + i * 5 + 4, none⟩ = some (.int .i32 x.M) := by
  obtain ⟨b, off, e, hc⟩ := hr i (encN x) (by rw [List.getElem?_map, hx]; rfl)
  exact ⟨b, off, e, hc 0 _ rfl, hc 1 _ rfl, hc 2 _ rfl, hc 3 _ rfl, hc 4 _ rfl⟩
theorem kindP_at {i : Nat} {x : Ins} (hx : l[i]? = some x) : kindP l (i : Int) = x.kind := by
  unfold kindP
  rw [if_pos (by omega)]
  simp [hx]
theorem kindP_out {a : Int} (h : ¬ (0 ≤ a ∧ a < (l.length : Int))) : kindP l a = 0 := by
  unfold kindP
  split
  · rename_i h0
    rw [List.getElem?_eq_none (by omega)]
  · rfl
theorem kindP_in {a : Int} (h : kindP l a ≠ 0) : ∃ (i : Nat) (x : Ins), a = i ∧ l[i]? = some x := by
  by_cases h1 : 0 ≤ a ∧ a < (l.length : Int)
  · exact ⟨a.toNat, _, by omega, List.getElem?_eq_getElem (by omega)⟩
  · exact absurd (kindP_out h1) h
set_option maxRecDepth 100000 in
theorem kind85 (c : Nat) (hr : RowsAt w A 5 (l.map encN)) (hok : ∀ x ∈ l, OkI x) (a : Int) :
    Calls Try.prog 85 #[.slice A l.length c, .int .i64 a] w fun e w' => e = .returned (.int .u8 (kindP l a)) ∧ Upd [] w w' := by
  by_cases h0 : 0 ≤ a
  · obtain ⟨n, rfl⟩ : ∃ n : Nat, a = n := ⟨a.toNat, by omega⟩
    have z0 : decide ((n : Int) < 0) = false := decide_eq_false (by omega)
    by_cases h1 : n < l.length
    · obtain ⟨x, hx⟩ : ∃ x, l[n]? = some x := ⟨l[n], List.getElem?_eq_getElem h1⟩
      rw [kindP_at hx]
      obtain ⟨b, off, rfl, k0, k1, k2, k3, k4⟩ := cellN hr hx
      have z1 : decide ((l.length : Int) ≤ (n : Int)) = false := decide_eq_false (by omega)
      have z2 : (0 : Int) ≤ (n : Int) := by omega
      have z3 : (n : Int) < (l.length : Int) := by omega
      have hk := PI.kind_c (hok x (List.mem_of_getElem? hx)) w
      clear hr hx
      go_enter Try.func85, Try.ntmps85
      go_wp2_with fail
      refine hk.mono ?_
      rintro e w1 ⟨rfl, hb⟩
      go_wp2_with fail
      go_ret
      exact ⟨rfl, Upd.of_below hb []⟩
    · have z1 : decide ((l.length : Int) ≤ (n : Int)) = true := decide_eq_true (by omega)
      rw [kindP_out (by omega)]
      go_enter Try.func85, Try.ntmps85
      go_wp2_with fail
      go_ret
      exact ⟨rfl, Upd.refl [] w⟩
  · have z0 : decide (a < 0) = true := decide_eq_true (by omega)
    rw [kindP_out (by omega)]
    go_enter Try.func85, Try.ntmps85
    go_wp2_with fail
    go_ret
    exact ⟨rfl, Upd.refl [] w⟩
theorem size86 (k : Int) : Calls Try.prog 86 #[.int .u8 k] w fun e w' => e = .returned (.int .i64 (szK k)) ∧ w = w' := by
  unfold szK
  by_cases h : k = 9
  · have z : (k == 9) = true := by simpa using h
    rw [if_pos h]
    clear h
    go_enter Try.func86, Try.ntmps86
    go_wp2_with fail
    go_ret
    exact ⟨rfl, rfl⟩
  · have z : (k == 9) = false := by simpa using h
    rw [if_neg h]
    clear h
    go_enter Try.func86, Try.ntmps86
    go_wp2_with fail
    go_ret
    exact ⟨rfl, rfl⟩
theorem szK_bd (k : Int) : 1 ≤ szK k ∧ szK k ≤ 2 := by
  unfold szK
  split <;> omega
def ansC (o : Option Int) : Ending := .returned (.tuple #[.int .i64 (o.getD 0), .bool o.isSome])
set_option maxRecDepth 100000 in
set_option maxHeartbeats 4000000 in
theorem callee37 (c : Nat) (hr : RowsAt w A 5 (l.map encN)) (hok : ∀ x ∈ l, OkI x) (a : Int) (hl : l.length ≤ 100000) :
    Calls Try.prog 37 #[.slice A l.length c, .int .i64 a] w fun e w' => e = ansC (calleeP l a) ∧ Upd [] w w' := by
  unfold ansC
  by_cases kb : (kindP l a = 7 ∨ (kindP l a = 9 ∧ srcP l a = 2))
  · obtain ⟨n, x, rfl, hx⟩ := kindP_in (l := l) (a := a) (by rcases kb with h | ⟨h, -⟩ <;> rw [h] <;> decide)
    have hkk := kind85 c hr hok (n : Int)
    obtain ⟨b, off, rfl, k0, k1, k2, k3, k4⟩ := cellN hr hx
    have hnl := (List.getElem?_eq_some_iff.1 hx).1
    have ho := hok x (List.mem_of_getElem? hx)
    have m0 := ho.m0
    have m1 := ho.m1
    have z2 : (0 : Int) ≤ (n : Int) := by omega
    have z3 : (n : Int) < (l.length : Int) := by omega
    obtain ⟨sz, hsz, hcal, hsb⟩ : ∃ sz : Int, szK (kindP l (n : Int)) = sz ∧ calleeP l (n : Int) = some ((n : Int) + sz + x.M) ∧ 1 ≤ sz ∧ sz ≤ 2 := by
      refine ⟨_, rfl, ?_, szK_bd _⟩
      unfold calleeP immP szK
      rcases kb with h | ⟨h, h2⟩
      · rw [if_pos h, if_neg (by rw [h]; decide)]
        simp [hx]
      · rw [if_neg (by rw [h]; decide), if_pos ⟨h, h2⟩, if_pos h]
        simp [hx]
    rw [hcal]
    simp only [Option.getD_some, Option.isSome_some]
    have y1 : IntKind.i64.wrap ((n : Int) + sz) = (n : Int) + sz := IntWalk.i64_in _ (by omega)
    have y2 : IntKind.i64.wrap x.M = x.M := IntWalk.i64_in _ (by omega)
    have y3 : IntKind.i64.wrap ((n : Int) + sz + x.M) = (n : Int) + sz + x.M := IntWalk.i64_in _ (by omega)
    have hs86 : ∀ w, Calls Try.prog 86 #[.int .u8 (kindP l (n : Int))] w fun e w' => e = .returned (.int .i64 sz) ∧ w' = w := fun w => (size86 (w := w) _).mono fun e w' ⟨h1, h2⟩ => ⟨by rw [h1, hsz], h2.symm⟩
    have hks : (kindP l (n : Int) == 7) = true ∨ ((kindP l (n : Int) == 7) = false ∧ (kindP l (n : Int) == 9) = true ∧ (x.S == 2) = true) := by
      rcases kb with h | ⟨h, h2⟩
      · exact .inl (by simp [h])
      · refine .inr ⟨by rw [h]; decide, by simp [h], ?_⟩
        unfold srcP at h2
        simp [hx] at h2
        simpa using h2
    clear hcal hsz kb hr hx ho
    generalize kindP l (n : Int) = k at hkk hs86 hks
    have k4' : ∀ w', Upd [] w w' → w'.cell? ⟨b, off + n * 5 + 4, none⟩ = some (.int .i32 x.M) := fun w' u => u.cell k4 (by simp)
    have k2' : ∀ w', Upd [] w w' → w'.cell? ⟨b, off + n * 5 + 2, none⟩ = some (.int .u8 x.S) := fun w' u => u.cell k2 (by simp)
    clear k0 k1 k2 k3 k4
    rcases hks with z7 | ⟨z7, z9, zS⟩
    all_goals
      go_enter Try.func37, Try.ntmps37
      go_wp2_with fail
      refine hkk.mono ?_
      rintro e w1 ⟨rfl, u1⟩
      have k4 := k4' _ u1
      have k2 := k2' _ u1
      clear k4' k2'
      go_wp2_with fail
      go_quiet ((go_at_call 86; exact Calls.quiet_of_same (hs86 _)))
      go_wp2_with fail
      go_ret2
      exact ⟨rfl, u1.drewN _⟩
  · have hcal : calleeP l a = none := by
      unfold calleeP
      rw [if_neg (fun h => kb (.inl h)), if_neg (fun h => kb (.inr h))]
    rw [hcal]
    simp only [Option.getD_none, Option.isSome_none]
    have hkk := kind85 c hr hok a
    have z7 : (kindP l a == 7) = false := by simpa using fun h => kb (.inl h)
    by_cases k9 : kindP l a = 9
    · obtain ⟨n, x, rfl, hx⟩ := kindP_in (l := l) (a := a) (by rw [k9]; decide)
      obtain ⟨b, off, rfl, k0, k1, k2, k3, k4⟩ := cellN hr hx
      have hnl := (List.getElem?_eq_some_iff.1 hx).1
      have z2 : (0 : Int) ≤ (n : Int) := by omega
      have z3 : (n : Int) < (l.length : Int) := by omega
      have z9 : (kindP l (n : Int) == 9) = true := by simp [k9]
      have zS : (x.S == 2) = false := by
        simp only [beq_eq_false_iff_ne]
        intro h
        exact kb (.inr ⟨k9, by unfold srcP; simp [hx, h]⟩)
      clear hcal kb hr hx k9 k0 k1 k3 k4
      generalize kindP l (n : Int) = k at hkk z7 z9
      go_enter Try.func37, Try.ntmps37
      go_wp2_with fail
      refine hkk.mono ?_
      rintro e w1 ⟨rfl, u1⟩
      have k2' := u1.cell k2 (by simp)
      clear k2
      go_wp2_with fail
      go_ret2
      exact ⟨rfl, u1⟩
    · have z9 : (kindP l a == 9) = false := by simpa using k9
      clear hcal kb hr k9
      generalize kindP l a = k at hkk z7 z9
      go_enter Try.func37, Try.ntmps37
      go_wp2_with fail
      refine hkk.mono ?_
      rintro e w1 ⟨rfl, u1⟩
      go_wp2_with fail
      go_ret2
      exact ⟨rfl, u1⟩
end
end Go.Proofs.Ytibghcmkmbamjaa
