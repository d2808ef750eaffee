/- A hash: what of, free, Find, Size, Key, Get tell. -/
import Derived.Test.YtagjcnhgappcjaaHash
namespace Go.Proofs.Ytagjcnhgappcjaa
open Go.RowKit
set_option linter.unusedVariables false
set_option linter.unusedSimpArgs false
set_option linter.unusedSectionVars false
theorem zero67 (w : World) : (zeroValue 67).run Try.prog w = .ok (.pointer none) w := by kernel_rfl
theorem zero3h (w : World) : (zeroValue 3).run Try.prog w = .ok (.int .i64 0) w := by kernel_rfl
theorem vsOf_get (l : List Ent) (x : Int) : aget (vsOf l) x = (aget l x).map fun v => (v.2.2.1, v.2.2.2) := by
  induction l with
  | nil => rfl
  | cons p l ih =>
    obtain ⟨a, v⟩ := p
    simp only [vsOf, List.map_cons, aget] at ih ⊢
    split
    · rfl
    · exact ih
section
variable {w0 w : World} {K : List (Nat × Obj)} {T : Res} [Good T] {h : Nat} {size n : Int} {bs bv : Nat} {l : List Ent}
theorem SepK.slots (H : SepK w0 w K (hR bs bv l T)) : MapAt Value.string (Value.int .i64) okS8 w bs (swp (vsOf l)) := SepK.map (T := star (mapR (Value.int .i64) eo okI bv l) (star (allR l) T)) H
theorem SepK.values (H : SepK w0 w K (hR bs bv l T)) : MapAt (Value.int .i64) eo okI w bv l := (SepK.swap (R := mapR Value.string (Value.int .i64) okS8 bs (swp (vsOf l))) (T := mapR (Value.int .i64) eo okI bv l) (U := star (allR l) T) H).map
theorem SepK.ones (H : SepK w0 w K (hR bs bv l T)) : ∃ N, allR l w N := SepK.get (SepK.pull2 (R := mapR Value.string (Value.int .i64) okS8 bs (swp (vsOf l))) (T := mapR (Value.int .i64) eo okI bv l) (U := allR l) (V := T) H)
theorem of_some (H : SepK w0 w K (hR bs bv l T)) (hK : (h, hblk size n bs bv) ∈ K) (x : Int) (hx : okI x) {v : Nat × Nat × ByteArray × List UInt8} (hv : aget l x = some v) :
    Calls Try.prog 29 #[.pointer (some ⟨h, 0, none⟩), .int .i64 x] w fun e w' => e = .returned (.pointer (some ⟨v.1, 0, none⟩)) ∧ w = w' := by
  have hb := H.blk hK
  have c3 := cell_of hb 3
  have lt := lt_of_heap hb
  simp only [List.getElem?_toArray, List.getElem?_cons_zero, List.getElem?_cons_succ] at c3
  have r1 : (Instr.lookup 63 (.map (some bv)) (.int .i64 x) false).run Try.prog w = .ok (.pointer (some ⟨v.1, 0, none⟩)) w := by
    rw [H.values.lookup ki Try.underlying63 (zero67 _) hx false, hv]; rfl
  go_enter Try.func29, Try.ntmps29
  go_wp2_with (go_at_call 30; (with_reducible refine (none_c hb).mono ?_); rintro e w1 ⟨rfl, rfl⟩)
  go_ret
  exact ⟨rfl, rfl⟩
theorem of_none (H : SepK w0 w K (hR bs bv l T)) (hK : (h, hblk size n bs bv) ∈ K) (x : Int) (hx : okI x) (hv : aget l x = none) :
    Calls Try.prog 29 #[.pointer (some ⟨h, 0, none⟩), .int .i64 x] w fun e w' => e = .returned (.pointer none) ∧ w = w' := by
  have hb := H.blk hK
  have c3 := cell_of hb 3
  have lt := lt_of_heap hb
  simp only [List.getElem?_toArray, List.getElem?_cons_zero, List.getElem?_cons_succ] at c3
  have r1 : (Instr.lookup 63 (.map (some bv)) (.int .i64 x) false).run Try.prog w = .ok (.pointer none) w := by
    rw [H.values.lookup ki Try.underlying63 (zero67 _) hx false, hv]; rfl
  go_enter Try.func29, Try.ntmps29
  go_wp2_with (go_at_call 30; (with_reducible refine (none_c hb).mono ?_); rintro e w1 ⟨rfl, rfl⟩)
  go_ret
  exact ⟨rfl, rfl⟩
theorem of_nil (w : World) (x : Int) : Calls Try.prog 29 #[.pointer none, .int .i64 x] w fun e w' => e = .returned (.pointer none) ∧ w = w' := by
  go_enter Try.func29, Try.ntmps29
  go_wp2_with (go_at_call 30; (with_reducible refine (none_nil _).mono ?_); rintro e w1 ⟨rfl, rfl⟩)
  go_ret
  exact ⟨rfl, rfl⟩
theorem hSize (H : SepK w0 w K (hR bs bv l T)) (hK : (h, hblk size n bs bv) ∈ K) : Calls Try.prog 17 #[.pointer (some ⟨h, 0, none⟩)] w fun e w' => e = .returned (.int .i64 size) ∧ w = w' := by
  have hb := H.blk hK
  have c0 := cell_of hb 0
  have lt := lt_of_heap hb
  simp only [List.getElem?_toArray, List.getElem?_cons_zero, List.getElem?_cons_succ] at c0
  go_enter Try.func17, Try.ntmps17
  go_wp2_with (go_at_call 30; (with_reducible refine (none_c hb).mono ?_); rintro e w1 ⟨rfl, rfl⟩)
  go_ret
  exact ⟨rfl, rfl⟩
theorem hSize_nil (w : World) : Calls Try.prog 17 #[.pointer none] w fun e w' => e = .returned (.int .i64 0) ∧ w = w' := by
  go_enter Try.func17, Try.ntmps17
  go_wp2_with (go_at_call 30; (with_reducible refine (none_nil _).mono ?_); rintro e w1 ⟨rfl, rfl⟩)
  go_ret
  exact ⟨rfl, rfl⟩
set_option maxRecDepth 100000 in
set_option maxHeartbeats 2000000 in
theorem hFree (H : SepK w0 w K (hR bs bv l T)) (hK : (h, hblk size n bs bv) ∈ K) (hn : 1 ≤ n) (hn2 : n ≤ 256) :
    Calls Try.prog 28 #[.pointer (some ⟨h, 0, none⟩)] w fun e w' => (∃ r : Int, e = .returned (.int .i64 r) ∧ ((∃ k : Nat, r = k ∧ (k : Int) < n ∧ (k : Int) ∉ l.map (·.1) ∧ ∀ j : Nat, j < k → (j : Int) ∈ l.map (·.1)) ∨ (r = -1 ∧ ∀ j : Nat, (j : Int) < n → (j : Int) ∈ l.map (·.1)))) ∧ w = w' := by
  have hb := H.blk hK
  have c1 := cell_of hb 1
  have c3 := cell_of hb 3
  have lt := lt_of_heap hb
  simp only [List.getElem?_toArray, List.getElem?_cons_zero, List.getElem?_cons_succ] at c1 c3
  have hm := H.values
  clear H hb hK
  go_enter Try.func28, Try.ntmps28
  go_wp2_with fail
  go_step3
  go_wp2_with fail
  go_step3
  go_wp2_with fail
  go_loopg [10] n.toNat (fun kq v10 w' => ∃ k : Nat, v10 = .int .i64 (k : Int) ∧ kq + k = n.toNat ∧ w = w' ∧ ∀ j : Nat, j < k → (j : Int) ∈ l.map (·.1))
  case atStart => exact ⟨0, rfl, rfl, rfl, fun j hj => by omega⟩
  case round =>
    obtain ⟨k, rfl, hk, rfl, hp⟩ := hrel
    have hP : Unit → ∀ j : Nat, j < k → (j : Int) ∈ l.map (·.1) := fun _ => hp
    clear hp
    by_cases hkn : (k : Int) < n
    · have z1 : decide ((k : Int) < n) = true := decide_eq_true hkn
      have hkI : okI (k : Int) := WalkArith.wf_i64 (by omega)
      cases hg : aget l (k : Int) with
      | some v =>
        have r1 : (Instr.lookup 63 (.map (some bv)) (.int .i64 (k : Int)) true).run Try.prog w = .ok (.tuple #[.pointer (some ⟨v.1, 0, none⟩), .bool true]) w := by
          rw [hm.lookup ki Try.underlying63 (zero67 _) hkI true, hg]; rfl
        have hm2 : (k : Int) ∈ l.map (·.1) := List.mem_map.2 ⟨_, aget_mem hg, rfl⟩
        clear hg
        go_wp2_with fail
        go_roundg (gk - 1)
        case measure => omega
        case rel => exact ⟨k + 1, by go_num, by omega, rfl, fun j hj => by
          rcases Nat.lt_succ_iff_lt_or_eq.1 hj with h' | rfl
          · exact hP () j h'
          · exact hm2⟩
      | none =>
        have r1 : (Instr.lookup 63 (.map (some bv)) (.int .i64 (k : Int)) true).run Try.prog w = .ok (.tuple #[.pointer none, .bool false]) w := by
          rw [hm.lookup ki Try.underlying63 (zero67 _) hkI true, hg]; rfl
        have hm2 : (k : Int) ∉ l.map (·.1) := (aget_none_iff l _).1 hg
        clear hg
        go_wp2_with fail
        rw [Exit.noGoto_ret]
        go_ret
        exact ⟨⟨k, rfl, .inl ⟨k, rfl, hkn, hm2, hP ()⟩⟩, rfl⟩
    · have z1 : decide ((k : Int) < n) = false := decide_eq_false hkn
      go_wp2_with fail
      go_ret
      exact ⟨⟨-1, rfl, .inr ⟨rfl, fun j hj => hP () j (by omega)⟩⟩, rfl⟩
theorem find_r (H : SepK w0 w K (hR bs bv l T)) (k : ByteArray) (hk : k.size = 8) : (Instr.lookup 56 (.map (some bs)) (.string k) true).run Try.prog w = .ok (.tuple #[.int .i64 ((aget (swp (vsOf l)) k).getD 0), .bool (aget (swp (vsOf l)) k).isSome]) w := by
  rw [H.slots.lookup ks Try.underlying56 (zero3h _) (by unfold okS8 maxLen; omega) true]
  cases aget (swp (vsOf l)) k <;> rfl
theorem hFind (H : SepK w0 w K (hR bs bv l T)) (hK : (h, hblk size n bs bv) ∈ K) (k : ByteArray) (hk : k.size = 8) (i : Int) (hi : aget (swp (vsOf l)) k = some i) : Calls Try.prog 26 #[.pointer (some ⟨h, 0, none⟩), .string k] w fun e w' => e = .returned (.tuple #[.int .i64 i, .int .i64 0]) ∧ w = w' := by
  have hb := H.blk hK
  have c2 := cell_of hb 2
  have lt := lt_of_heap hb
  simp only [List.getElem?_toArray, List.getElem?_cons_zero, List.getElem?_cons_succ] at c2
  have r1 := find_r H k hk
  rw [hi] at r1
  simp only [Option.getD_some, Option.isSome_some] at r1
  go_enter Try.func26, Try.ntmps26
  go_wp2_with (go_at_call 27; (with_reducible refine (may_c hb k hk).mono ?_); rintro e w1 ⟨rfl, rfl⟩)
  go_ret2
  exact ⟨rfl, rfl⟩
theorem hFind_none (H : SepK w0 w K (hR bs bv l T)) (hK : (h, hblk size n bs bv) ∈ K) (k : ByteArray) (hk : k.size = 8) (hi : aget (swp (vsOf l)) k = none) : Calls Try.prog 26 #[.pointer (some ⟨h, 0, none⟩), .string k] w fun e w' => e = .returned (.tuple #[.int .i64 0, .int .i64 5]) ∧ w = w' := by
  have hb := H.blk hK
  have c2 := cell_of hb 2
  have lt := lt_of_heap hb
  simp only [List.getElem?_toArray, List.getElem?_cons_zero, List.getElem?_cons_succ] at c2
  have r1 := find_r H k hk
  rw [hi] at r1
  simp only [Option.getD_none, Option.isSome_none] at r1
  go_enter Try.func26, Try.ntmps26
  go_wp2_with (go_at_call 27; (with_reducible refine (may_c hb k hk).mono ?_); rintro e w1 ⟨rfl, rfl⟩)
  go_ret2
  exact ⟨rfl, rfl⟩
theorem hFind_no (H : SepK w0 w K (hR bs bv l T)) (hK : (h, hblk size n bs bv) ∈ K) (k : ByteArray) (hk : k.size ≠ 8) : Calls Try.prog 26 #[.pointer (some ⟨h, 0, none⟩), .string k] w fun e w' => e = .returned (.tuple #[.int .i64 0, .int .i64 2]) ∧ w = w' := by
  have hb := H.blk hK
  go_enter Try.func26, Try.ntmps26
  go_wp2_with (go_at_call 27; (with_reducible refine (may_no hb k hk).mono ?_); rintro e w1 ⟨rfl, rfl⟩)
  go_ret2
  exact ⟨rfl, rfl⟩
theorem hFind_nil (w : World) (k : ByteArray) : Calls Try.prog 26 #[.pointer none, .string k] w fun e w' => e = .returned (.tuple #[.int .i64 0, .int .i64 1]) ∧ w = w' := by
  go_enter Try.func26, Try.ntmps26
  go_wp2_with (go_at_call 27; (with_reducible refine (may_nil _ k).mono ?_); rintro e w1 ⟨rfl, rfl⟩)
  go_ret2
  exact ⟨rfl, rfl⟩
end
end Go.Proofs.Ytagjcnhgappcjaa
