/- The document's answer for the slab: Used. -/
import Derived.Test.YtgleceijdedlkaaRef12
namespace Go.Proofs.Ytgleceijdedlkaa
set_option linter.unusedSectionVars false
set_option linter.unusedVariables false
set_option linter.unusedSimpArgs false
open Go.RowKit
theorem usedOf_take {l : List (Int × List UInt8)} {i : Nat} {q : Int × List UInt8} (h : l[i]? = some q) : usedOf (l.take (i + 1)) = usedOf (l.take i) + cls q.2.length := by
  unfold usedOf
  rw [List.take_add_one, h]
  simp
theorem usedOf_le (l : List (Int × List UInt8)) : usedOf l ≤ l.length * 128 := by
  unfold usedOf
  induction l with
  | nil => simp
  | cons p l ih =>
    have := (cls_rng p.2.length).2
    simp only [List.map_cons, List.sum_cons, List.length_cons]
    omega
section
variable {w0 w : World} {K : List (Nat × Obj)} {T : Res} [Good T] {r : Nat} {room : Int} {vL : Value} {l : List (Int × List UInt8)}
set_option maxRecDepth 100000 in
set_option maxHeartbeats 4000000 in
theorem uUsed (H : SepK w0 w K (star (rowR 101 2 vL (l.map encT)) T)) (hK : (r, tblk room vL) ∈ K) (hl : l.length ≤ 100000) (hb : ∀ p ∈ l, p.2.length ≤ 1000) :
    Calls Try.prog 55 #[.pointer (some ⟨r, 0, none⟩)] w fun e w' => e = .returned (.int .i64 (usedOf l)) ∧ w = w' := by
  obtain ⟨A, c, rfl, hr, -⟩ := H.parts
  have fr := H.blk hK
  have c0 := cell_of fr 1
  have lt := lt_of_heap fr
  simp only [List.getElem?_toArray, List.getElem?_cons_zero, List.getElem?_cons_succ, List.length_map] at c0
  clear H hK fr
  go_enter Try.func55, Try.ntmps55
  go_wp2_with fail
  go_loopg [3, 4] l.length (fun kq v3 v4 w' => ∃ i : Nat, v3 = .int .i64 (usedOf (l.take i)) ∧ v4 = .int .i64 (i : Int) ∧ kq + i = l.length ∧ w = w')
  case atStart => exact ⟨0, rfl, rfl, rfl, rfl⟩
  case round =>
    obtain ⟨i, rfl, rfl, hk, rfl⟩ := hrel
    by_cases hi : i < l.length
    · have z1 : decide ((i : Int) < (l.length : Int)) = true := decide_eq_true (by omega)
      obtain ⟨q, hq⟩ : ∃ q, l[i]? = some q := ⟨l[i], List.getElem?_eq_getElem hi⟩
      obtain ⟨b, off, rfl, k0, k1⟩ := rowcellT hr hq
      have hu : Unit → usedOf (l.take (i + 1)) = usedOf (l.take i) + cls q.2.length := fun _ => usedOf_take hq
      have hq2 := hb q (List.mem_of_getElem? hq)
      have h1 := usedOf_le (l.take i)
      have h2 := usedOf_nonneg (l.take i)
      have h3 := cls_rng (q.2.length : Int)
      have h4 : (l.take i).length ≤ 100000 := by simp; omega
      have hsz : ((bstr q.2).size : Int) = (q.2.length : Int) := by rw [bstr_size]
      have hwr : IntKind.i64.wrap (usedOf (l.take i) + cls q.2.length) = usedOf (l.take i) + cls q.2.length := IntWalk.i64_in _ (by omega)
      clear hr
      go_wp2_with (go_at_call 59; refine (refClass_spec _ _).mono ?_; rintro e w1 ⟨rfl, rfl⟩)
      go_roundg (gk - 1)
      case measure => omega
      case rel => exact ⟨i + 1, by rw [hu ()], by go_num, by omega, rfl⟩
    · have z1 : decide ((i : Int) < (l.length : Int)) = false := decide_eq_false (by omega)
      have e1 : l.take i = l := List.take_of_length_le (by omega)
      rw [e1]
      clear hr
      go_wp2_with fail
      go_ret
      exact ⟨rfl, rfl⟩
end
end Go.Proofs.Ytgleceijdedlkaa
