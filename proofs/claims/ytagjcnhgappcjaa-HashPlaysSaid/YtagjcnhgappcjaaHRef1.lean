/- The document's hash: at, Find, There, Slots; the document's Put of a text over a text. -/
import Derived.Test.YtagjcnhgappcjaaHOrder
import Derived.Test.YtagjcnhgappcjaaHRef0
namespace Go.Proofs.Ytagjcnhgappcjaa
open Go.RowKit
set_option linter.unusedVariables false
set_option linter.unusedSimpArgs false
set_option linter.unusedSectionVars false
def rblk (size : Int) (v : Value) : Obj := .cells #[.int .i64 size, v] 51 (0, 0)
abbrev refR (m : Nat) (vs : Vs) (v : Value) : Res := rowR 48 3 v (rowsE m vs)
theorem row_cells {w : World} {A : Option Addr} {m : Nat} {vs : Vs} (h : RowsAt w A 3 (rowsE m vs)) {i : Nat} (hi : i < m) : ∃ b off, A = some ⟨b, off, none⟩ ∧ w.cell? ⟨b, off + i * 3, none⟩ = some (.string (keyE (aget vs (i : Int)))) ∧ w.cell? ⟨b, off + i * 3 + 1, none⟩ = some (.string (textE (aget vs (i : Int)))) ∧ w.cell? ⟨b, off + i * 3 + 2, none⟩ = some (.bool (aget vs (i : Int)).isSome) := by
  obtain ⟨b, off, e, hc⟩ := h i _ (rowsE_at hi)
  exact ⟨b, off, e, hc 0 _ rfl, hc 1 _ rfl, hc 2 _ rfl⟩
theorem over_str (L : List UInt8) (o : Nat) (t : ByteArray) (hf : o + t.size ≤ L.length) : (bstr L).extract 0 o ++ t ++ (bstr L).extract (o + t.size) L.length = bstr (over L o t.data.toList) := by
  apply ByteArray.ext
  apply Array.toList_inj.1
  have ht : t.data.toList.length = t.size := rfl
  simp only [ByteArray.data_append, ByteArray.data_extract, Array.toList_append, Array.toList_extract, bstr, List.extract, over, ht]
  simp only [Nat.sub_zero, List.drop_zero]
  congr 1
  rw [List.take_of_length_le]
  simp
section
variable {w0 w : World} {K : List (Nat × Obj)} {T : Res} [Good T] {r : Nat} {size : Int} {m : Nat} {vs : Vs} {v : Value}
set_option maxRecDepth 100000 in
set_option maxHeartbeats 4000000 in
theorem rAt (H : SepK w0 w K (star (refR m vs v) T)) (hK : (r, rblk size v) ∈ K) (hb : HB size (m : Int) vs) (k : ByteArray) :
    Calls Try.prog 39 #[.pointer (some ⟨r, 0, none⟩), .string k] w fun e w' => e = .returned (.int .i64 (atV vs k)) ∧ w = w' := by
  obtain ⟨A, c, rfl, hr, -⟩ := H.parts
  have fr := H.blk hK
  have c1 := cell_of fr 1
  have lt := lt_of_heap fr
  have hm2 := hb.n2
  simp only [List.getElem?_toArray, List.getElem?_cons_zero, List.getElem?_cons_succ, rowsE_len] at c1
  clear H hK fr
  go_enter Try.func39, Try.ntmps39
  go_wp2_with fail
  go_loopg [5] m (fun kq v5 w' => ∃ i : Nat, v5 = .int .i64 (i : Int) ∧ kq + i = m ∧ w = w' ∧ ∀ j : Nat, j < i → aget (swp vs) k ≠ some (j : Int))
  case atStart => exact ⟨0, rfl, by omega, rfl, fun j hj => by omega⟩
  case round =>
    obtain ⟨i, rfl, hk, rfl, hn⟩ := hrel
    have HN : Unit → ∀ j : Nat, j < i → aget (swp vs) k ≠ some (j : Int) := fun _ => hn
    clear hn
    by_cases hi : i < m
    · have z1 : decide ((i : Int) < (m : Int)) = true := decide_eq_true (by omega)
      obtain ⟨b, off, rfl, k0, k1, k2⟩ := row_cells hr hi
      have y3 : (0 : Int) ≤ (i : Int) := by omega
      have y4 : (i : Int) < (m : Int) := by omega
      cases hg : aget vs (i : Int) with
      | none =>
        rw [hg] at k0 k2
        have HN2 : Unit → ∀ j : Nat, j < i + 1 → aget (swp vs) k ≠ some (j : Int) := fun _ j hj => by
          by_cases e : j = i
          · subst e; exact at_none hb hg
          · exact HN () j (by omega)
        clear hg HN
        simp only [Option.isSome_none] at k2
        go_wp2_with fail
        go_roundg (gk - 1)
        case measure => omega
        case rel => exact ⟨i + 1, by go_num, by omega, rfl, HN2 ()⟩
      | some p =>
        obtain ⟨k', L⟩ := p
        rw [hg] at k0 k2
        simp only [Option.isSome_some] at k2
        change w.cell? _ = some (Value.string k') at k0
        cases hq : (k'.toList == k.toList) with
        | true =>
          have ha : Unit → atV vs k = (i : Int) := fun _ => atV_some (at_yes hb hg hq)
          clear hg HN
          go_wp2_with fail
          go_ret
          exact ⟨by rw [ha ()]; rfl, rfl⟩
        | false =>
          have HN2 : Unit → ∀ j : Nat, j < i + 1 → aget (swp vs) k ≠ some (j : Int) := fun _ j hj => by
            by_cases e : j = i
            · subst e; exact at_no hb hg hq
            · exact HN () j (by omega)
          clear hg HN
          go_wp2_with fail
          go_roundg (gk - 1)
          case measure => omega
          case rel => exact ⟨i + 1, by go_num, by omega, rfl, HN2 ()⟩
    · have z1 : decide ((i : Int) < (m : Int)) = false := decide_eq_false (by omega)
      have ha : Unit → atV vs k = -1 := fun _ => (atV_none hb fun j hj => HN () j (by omega)).2
      clear HN
      go_wp2_with fail
      go_ret
      exact ⟨by rw [ha ()]; rfl, rfl⟩
theorem rFind (H : SepK w0 w K (star (refR m vs v) T)) (hK : (r, rblk size v) ∈ K) (hb : HB size (m : Int) vs) (k : ByteArray) (hks : k.size ≤ 256) :
    Calls Try.prog 34 #[.pointer (some ⟨r, 0, none⟩), .string k] w fun e w' => e = .returned (twoV (find vs k)) ∧ w = w' := by
  unfold find
  by_cases hk : k.size ≠ 8
  · rw [if_pos hk]
    have z1 : ((k.size : Int) != 8) = true := by simp; omega
    clear hk
    go_enter Try.func34, Try.ntmps34
    go_wp2_with fail
    go_ret2
    exact ⟨rfl, rfl⟩
  · rw [if_neg hk]
    have z1 : ((k.size : Int) != 8) = false := by simp; omega
    cases hg : aget (swp vs) k with
    | some i =>
      obtain ⟨b, h2⟩ := hb.inv.find hg
      have h3 := hb.okI h2
      have ha := atV_some hg
      have z2 : decide (i < 0) = false := decide_eq_false (by omega)
      clear hg hk
      go_enter Try.func34, Try.ntmps34
      go_wp2_with fail
      refine (rAt H hK hb k).mono ?_
      rw [ha]
      rintro e w' ⟨rfl, rfl⟩
      clear ha
      go_wp2_with fail
      go_ret2
      exact ⟨rfl, rfl⟩
    | none =>
      have ha : atV vs k = -1 := by unfold atV; rw [hg]; rfl
      clear hg hk
      go_enter Try.func34, Try.ntmps34
      go_wp2_with fail
      refine (rAt H hK hb k).mono ?_
      rw [ha]
      rintro e w' ⟨rfl, rfl⟩
      clear ha
      go_wp2_with fail
      go_ret2
      exact ⟨rfl, rfl⟩
set_option maxRecDepth 100000 in
theorem rThere (H : SepK w0 w K (star (refR m vs v) T)) (hK : (r, rblk size v) ∈ K) (hb : HB size (m : Int) vs) (x : Int) (hx : okI x) :
    Calls Try.prog 22 #[.pointer (some ⟨r, 0, none⟩), .int .i64 x] w fun e w' => e = .returned (.bool (aget vs x).isSome) ∧ w = w' := by
  obtain ⟨A, c, rfl, hr, -⟩ := H.parts
  have fr := H.blk hK
  have c1 := cell_of fr 1
  have lt := lt_of_heap fr
  have hm2 := hb.n2
  simp only [List.getElem?_toArray, List.getElem?_cons_zero, List.getElem?_cons_succ, rowsE_len] at c1
  clear H hK fr
  by_cases c0 : 0 ≤ x
  · obtain ⟨i, rfl⟩ : ∃ i : Nat, x = i := ⟨x.toNat, by omega⟩
    have z1 : decide (0 ≤ (i : Int)) = true := decide_eq_true c0
    by_cases hi : i < m
    · have z2 : decide (i < m) = true := decide_eq_true hi
      obtain ⟨b, off, rfl, k0, k1, k2⟩ := row_cells hr hi
      have y4 : (i : Int) < (m : Int) := by omega
      go_enter Try.func22, Try.ntmps22
      go_wp2_with fail
      go_ret
      exact ⟨rfl, rfl⟩
    · have z2 : decide (i < m) = false := decide_eq_false hi
      have hg : Unit → (aget vs (i : Int)).isSome = false := fun _ => by
        cases hg : aget vs (i : Int) with
        | none => rfl
        | some p => have := hb.okI hg; omega
      go_enter Try.func22, Try.ntmps22
      go_wp2_with fail
      go_ret
      exact ⟨by rw [hg ()]; rfl, rfl⟩
  · have z1 : decide (0 ≤ x) = false := decide_eq_false c0
    have hg : Unit → (aget vs x).isSome = false := fun _ => by
      cases hg : aget vs x with
      | none => rfl
      | some p => have := hb.okI hg; omega
    go_enter Try.func22, Try.ntmps22
    go_wp2_with fail
    go_ret
    exact ⟨by rw [hg ()]; rfl, rfl⟩
set_option maxRecDepth 100000 in
theorem put19_ok (L : List UInt8) (o : Nat) (t : ByteArray) (w : World) (hf : o + t.size ≤ L.length) (hL : L.length ≤ 1000) :
    Calls Try.prog 40 #[.string (bstr L), .int .i64 (o : Int), .string t] w fun e w' => e = .returned (.tuple #[.string (bstr (over L o t.data.toList)), .bool true]) ∧ Upd [] w w' := by
  have hs := bstr_size L
  have z1 : decide ((o : Int) < 0) = false := decide_eq_false (by omega)
  have z2 : decide (L.length < o) = false := decide_eq_false (by omega)
  have z3 : decide ((L.length : Int) - (o : Int) < (t.size : Int)) = false := decide_eq_false (by omega)
  go_enter Try.func40, Try.ntmps40
  go_wp2_with fail
  have hw1 : IntKind.i64.wrap ((o : Int) + (t.size : Int)) = (o : Int) + (t.size : Int) := IntWalk.i64_in _ (by omega)
  have y1 : (0 : Int) ≤ (o : Int) := by omega
  have y2 : (o : Int) ≤ (L.length : Int) := by omega
  have y3 : (0 : Int) ≤ (o : Int) + (t.size : Int) := by omega
  have y4 : (o : Int) + (t.size : Int) ≤ (L.length : Int) := by omega
  have y5 : ((o : Int) + (t.size : Int)).toNat = o + t.size := by omega
  go_quiet (fail)
  go_wp2_with fail
  go_ret2
  refine ⟨?_, (Upd.refl [] w).drewN _⟩
  show Ending.returned (.tuple #[.string _, .bool true]) = _
  rw [over_str L o t hf]
set_option maxRecDepth 100000 in
theorem put19_no (L : List UInt8) (o : Int) (t : ByteArray) (w : World) (hf : ¬ (0 ≤ o ∧ o ≤ (L.length : Int) ∧ (t.size : Int) ≤ (L.length : Int) - o)) (hL : L.length ≤ 1000) (ht : t.size ≤ 1024) (ho : okI o) :
    Calls Try.prog 40 #[.string (bstr L), .int .i64 o, .string t] w fun e w' => e = .returned (.tuple #[.string ⟨#[]⟩, .bool false]) ∧ w = w' := by
  have hs := bstr_size L
  by_cases c1 : o < 0
  · have z1 : decide (o < 0) = true := decide_eq_true c1
    go_enter Try.func40, Try.ntmps40
    go_wp2_with fail
    go_ret2
    exact ⟨rfl, rfl⟩
  obtain ⟨i, rfl⟩ : ∃ i : Nat, o = i := ⟨o.toNat, by omega⟩
  have z1 : decide ((i : Int) < 0) = false := decide_eq_false c1
  by_cases c2 : L.length < i
  · have z2 : decide (L.length < i) = true := decide_eq_true (by omega)
    go_enter Try.func40, Try.ntmps40
    go_wp2_with fail
    go_ret2
    exact ⟨rfl, rfl⟩
  have z2 : decide (L.length < i) = false := decide_eq_false (by omega)
  have z3 : decide ((L.length : Int) - (i : Int) < (t.size : Int)) = true := decide_eq_true (by omega)
  clear hf
  go_enter Try.func40, Try.ntmps40
  go_wp2_with fail
  go_ret2
  exact ⟨rfl, rfl⟩
end
end Go.Proofs.Ytagjcnhgappcjaa
