/- A hash: what New, none, may, Size, of, free, Find do to memory. -/
import Derived.Test.YtagjcnhgappcjaaProg
import Derived.Test.YtagjcnhgappcjaaHPure
import Derived.Test.YtagjcnhgappcjaaStrLib
import Derived.Test.YtagjcnhgappcjaaPartLib
import Derived.WalkKit
import Derived.RegionTactic
import Derived.BigRegion
import Derived.Deep.QuietTactic
import Derived.BigQuiet
import Derived.WalkSpells
import Derived.WalkLawsBesides
import Derived.Laws.StructEq
import Derived.KernelRfl
import Derived.Outline
import Derived.StillTailTactics
import Derived.Deep.LoopGhost
import Derived.IntWalk
namespace Go.Proofs.Ytagjcnhgappcjaa
open Go.RowKit
set_option linter.unusedVariables false
set_option linter.unusedSimpArgs false
set_option linter.unusedSectionVars false
def okI (a : Int) : Prop := (Lit.int .i64 a).wf = true
theorem ki : Kops Try.prog 3 (Value.int .i64) okI := kops_int Try.underlying3
theorem ks : Kops Try.prog 9 Value.string okS8 := kops_string Try.underlying9
def hblk (size n : Int) (bs bv : Nat) : Obj := .cells #[.int .i64 size, .int .i64 n, .map (some bs), .map (some bv)] 65 (0, 0)
/-- A slot: its one's block, its bytes' block, its key, its bytes. -/
abbrev Ent := Int × (Nat × Nat × ByteArray × List UInt8)
def eo (v : Nat × Nat × ByteArray × List UInt8) : Value := .pointer (some ⟨v.1, 0, none⟩)
def vsOf (l : List Ent) : Vs := l.map fun p => (p.1, p.2.2.2.1, p.2.2.2.2)
def oneObj (p : Ent) : Obj := .cells #[.string p.2.2.2.1, .slice (some ⟨p.2.2.1, 0, none⟩) p.2.2.2.2.length p.2.2.2.2.length] 69 (0, 0)
def allR (l : List Ent) : Res := fun w N => (∀ p ∈ l, w.heap[p.2.1]? = some (oneObj p) ∧ BytesAt 5 w p.2.2.1 p.2.2.2.2 ∧ N p.2.1 ∧ N p.2.2.1) ∧ (l.map (·.2.1)).Nodup ∧ (l.map (·.2.2.1)).Nodup ∧ ∀ p ∈ l, ∀ q ∈ l, p.2.1 ≠ q.2.2.1
instance {l : List Ent} : Good (allR l) where
  kept := fun ⟨h1, h2⟩ u hS => ⟨fun p hp => ⟨u.heap (h1 p hp).1 (fun hm => hS _ hm (h1 p hp).2.2.1), (h1 p hp).2.1.kept u (fun hm => hS _ hm (h1 p hp).2.2.2), (h1 p hp).2.2⟩, h2⟩
  mono := fun ⟨h1, h2⟩ hM => ⟨fun p hp => ⟨(h1 p hp).1, (h1 p hp).2.1, hM _ (lt_of_heap (h1 p hp).1) (h1 p hp).2.2.1, hM _ (h1 p hp).2.1.lt (h1 p hp).2.2.2⟩, h2⟩
/-- A hash's maps and values. -/
def hR (bs bv : Nat) (l : List Ent) (T : Res) : Res := star (mapR Value.string (Value.int .i64) okS8 bs (swp (vsOf l))) (star (mapR (Value.int .i64) eo okI bv l) (star (allR l) T))
instance {bs bv : Nat} {l : List Ent} {T : Res} [Good T] : Good (hR bs bv l T) := by unfold hR; infer_instance
theorem en56 (w : World) (r : Nat) : (binOp .eql 56 (.map (some r)) (.map none)).run Try.prog w = .ok (.bool false) w := run_eql_map_nil w 56 _ _ (some r) Try.underlying56
section
variable {w0 w : World} {K : List (Nat × Obj)} {T : Res} [Good T]
set_option maxRecDepth 100000 in
set_option maxHeartbeats 2000000 in
theorem hNew (H : SepK w0 w K T) (size n : Int) (h1 : 1 ≤ size) (h2 : size ≤ 128) (h3 : 1 ≤ n) (h4 : n ≤ 256) :
    Calls Try.prog 10 #[.int .i64 size, .int .i64 n] w fun e w' => ∃ h bs bv, e = .returned (.tuple #[.pointer (some ⟨h, 0, none⟩), .int .i64 0]) ∧ SepK w0 w' ((h, hblk size n bs bv) :: K) (hR bs bv [] T) := by
  have hmm := @run_makeMap Try.prog
  have z1 : decide (size < 1) = false := decide_eq_false (by omega)
  have z2 : decide (128 < size) = false := decide_eq_false (by omega)
  have z3 : decide (n < 1) = false := decide_eq_false (by omega)
  have z4 : decide (256 < n) = false := decide_eq_false (by omega)
  have a1 := H.more (T := allR []) (M := fun _ => False) (Upd.refl [] w) ⟨by simp, by simp, by simp, by simp⟩ (fun _ hb => hb.elim)
  have a2 := (a1.map0 Value.string (Value.int .i64) okS8).map0 (Value.int .i64) eo okI
  have a3 := (a2.alloc (hblk size n w.heap.size (w.alloc (.map #[] 0)).heap.size))
  simp only [alloc_size] at a3
  go_enter Try.func10, Try.ntmps10
  go_wp2
  go_ret2
  exact ⟨_, _, _, rfl, a3.imp fun _ g => star_swap g⟩
set_option maxRecDepth 100000 in
theorem hNew_no (size n : Int) (w : World) (hno : ¬ (1 ≤ size ∧ size ≤ 128 ∧ 1 ≤ n ∧ n ≤ 256)) :
    Calls Try.prog 10 #[.int .i64 size, .int .i64 n] w fun e w' => e = .returned (.tuple #[.pointer none, .int .i64 2]) ∧ w = w' := by
  by_cases c1 : size < 1
  · have z1 : decide (size < 1) = true := decide_eq_true c1
    go_enter Try.func10, Try.ntmps10
    go_wp2
    go_ret2
    exact ⟨rfl, rfl⟩
  have z1 : decide (size < 1) = false := decide_eq_false c1
  by_cases c2 : 128 < size
  · have z2 : decide (128 < size) = true := decide_eq_true c2
    go_enter Try.func10, Try.ntmps10
    go_wp2
    go_ret2
    exact ⟨rfl, rfl⟩
  have z2 : decide (128 < size) = false := decide_eq_false c2
  by_cases c3 : n < 1
  · have z3 : decide (n < 1) = true := decide_eq_true c3
    go_enter Try.func10, Try.ntmps10
    go_wp2
    go_ret2
    exact ⟨rfl, rfl⟩
  have z3 : decide (n < 1) = false := decide_eq_false c3
  have z4 : decide (256 < n) = true := decide_eq_true (by omega)
  go_enter Try.func10, Try.ntmps10
  go_wp2
  go_ret2
  exact ⟨rfl, rfl⟩
section
variable {h : Nat} {size n : Int} {bs bv : Nat} {l : List Ent}
theorem none_c (H : w.heap[h]? = some (hblk size n bs bv)) : Calls Try.prog 30 #[.pointer (some ⟨h, 0, none⟩)] w fun e w' => e = .returned (.bool false) ∧ w = w' := by
  have c2 := cell_of H 2
  have lt := lt_of_heap H
  simp only [List.getElem?_toArray, List.getElem?_cons_zero, List.getElem?_cons_succ] at c2
  have e56 := en56
  go_enter Try.func30, Try.ntmps30
  go_wp2
  go_ret
  exact ⟨rfl, rfl⟩
theorem none_nil (w : World) : Calls Try.prog 30 #[.pointer none] w fun e w' => e = .returned (.bool true) ∧ w = w' := by
  go_enter Try.func30, Try.ntmps30
  go_wp2
  go_ret
  exact ⟨rfl, rfl⟩
theorem may_c (H : w.heap[h]? = some (hblk size n bs bv)) (k : ByteArray) (hk : k.size = 8) : Calls Try.prog 27 #[.pointer (some ⟨h, 0, none⟩), .string k] w fun e w' => e = .returned (.int .i64 0) ∧ w = w' := by
  have z : ((k.size : Int) != 8) = false := by simp [hk]
  go_enter Try.func27, Try.ntmps27
  go_wp2_with (go_at_call 30; (with_reducible refine (none_c H).mono ?_); rintro e w1 ⟨rfl, rfl⟩)
  go_ret
  exact ⟨rfl, rfl⟩
theorem may_no (H : w.heap[h]? = some (hblk size n bs bv)) (k : ByteArray) (hk : k.size ≠ 8) : Calls Try.prog 27 #[.pointer (some ⟨h, 0, none⟩), .string k] w fun e w' => e = .returned (.int .i64 2) ∧ w = w' := by
  have z : ((k.size : Int) != 8) = true := by simp; omega
  go_enter Try.func27, Try.ntmps27
  go_wp2_with (go_at_call 30; (with_reducible refine (none_c H).mono ?_); rintro e w1 ⟨rfl, rfl⟩)
  go_ret
  exact ⟨rfl, rfl⟩
theorem may_nil (w : World) (k : ByteArray) : Calls Try.prog 27 #[.pointer none, .string k] w fun e w' => e = .returned (.int .i64 1) ∧ w = w' := by
  go_enter Try.func27, Try.ntmps27
  go_wp2_with (go_at_call 30; (with_reducible refine (none_nil _).mono ?_); rintro e w1 ⟨rfl, rfl⟩)
  go_ret
  exact ⟨rfl, rfl⟩
end
end
end Go.Proofs.Ytagjcnhgappcjaa
