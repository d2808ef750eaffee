/- The document's hash: Write, Slots. -/
import Derived.Test.YtagjcnhgappcjaaHRef2
namespace Go.Proofs.Ytagjcnhgappcjaa
open Go.RowKit
set_option linter.unusedVariables false
set_option linter.unusedSimpArgs false
set_option linter.unusedSectionVars false
theorem info3 : (Try.prog.info? 3).map (fun i => (i.zero, i.size, i.bytes)) = some (some (.int .i64 0), 1, 8) := by kernel_rfl
theorem cell_one_new (w : World) (x : Value) (e : TypeId) : ∀ j u, [x][j]? = some u → (w.alloc (.cells #[x] e)).cell? ((⟨w.heap.size, 0, none⟩ : Addr).add j) = some u := by
  intro j u hj
  match j, hj with
  | 0, hj =>
    cases hj
    simp [Addr.add]
section
variable {w0 w : World} {K : List (Nat × Obj)} {T : Res} [Good T] {r : Nat} {size : Int} {m : Nat} {vs : Vs} {v : Value}
set_option maxRecDepth 100000 in
set_option maxHeartbeats 4000000 in
theorem rWrite (H : SepK w0 w K (star (refR m vs v) T)) (hK : (r, rblk size v) ∈ K) (hb : HB size (m : Int) vs) (x o : Int) (hx : okI x) (ho : okI o) (t : ByteArray) (ht : t.size ≤ 1024) :
    Calls Try.prog 33 #[.pointer (some ⟨r, 0, none⟩), .int .i64 x, .int .i64 o, .string t] w fun e w' => e = .returned (.int .i64 (write size vs x o t).1) ∧ SepK w0 w' K (star (refR m (write size vs x o t).2 v) T) := by
  cases hg : aget vs x with
  | none =>
    have hw : write size vs x o t = (5, vs) := by unfold write; rw [hg]
    rw [hw]
    have hth : (aget vs x).isSome = false := by rw [hg]; rfl
    clear hw hg
    go_enter Try.func33, Try.ntmps33
    go_wp2_with fail
    refine (rThere H hK hb x hx).mono ?_
    rw [hth]
    rintro e w' ⟨rfl, rfl⟩
    clear hth
    go_wp2_with fail
    go_ret
    exact ⟨rfl, H⟩
  | some p =>
    obtain ⟨k, L⟩ := p
    have hi := hb.okI hg
    have hL : (L.length : Int) = size := hb.inv.bs (x, k, L) (aget_mem hg)
    have hs2 := hb.s2
    obtain ⟨j, rfl⟩ : ∃ j : Nat, x = j := ⟨x.toNat, by omega⟩
    have hjm : j < m := by omega
    obtain ⟨A, c, rfl, hr, -⟩ := H.parts
    obtain ⟨b, off, rfl, k0, k1, k2⟩ := row_cells hr hjm
    rw [rowsE_len] at H hK ⊢
    have hth : (aget vs (j : Int)).isSome = true := by rw [hg]; rfl
    rw [hg] at k0 k1 k2
    simp only [Option.isSome_some] at k2
    change w.cell? _ = some (Value.string k) at k0
    change w.cell? _ = some (Value.string (bstr L)) at k1
    have y1 : (0 : Int) ≤ (j : Int) := by omega
    have y2 : (j : Int) < (m : Int) := by omega
    have lr := lt_of_heap (H.blk hK)
    have lb := (H.free3 (i := j) (by rw [rowsE_len]; exact hjm)).2.2
    have c1 := cell_of (H.blk hK) 1
    simp only [List.getElem?_toArray, List.getElem?_cons_zero, List.getElem?_cons_succ] at c1
    have H1 := H.alloc (.cells #[.string k, .string (bstr L), .bool true] 48)
    have hKn : ∀ p ∈ K, p.1 ≠ w.heap.size := fun p hp => by
      have := lt_of_heap (H.blk (b := p.1) (o := p.2) hp)
      omega
    have fx := H1.blk List.mem_cons_self
    have x1 := cell_of fx 1
    simp only [List.getElem?_toArray, List.getElem?_cons_zero, List.getElem?_cons_succ] at x1
    by_cases hf : 0 ≤ o ∧ o ≤ size ∧ (t.size : Int) ≤ size - o
    · obtain ⟨oo, rfl⟩ : ∃ oo : Nat, o = oo := ⟨o.toNat, by omega⟩
      have hw : write size vs (j : Int) (oo : Int) t = (0, aput vs (j : Int) (k, over L oo t.data.toList)) := by
        unfold write
        rw [hg]
        simp only
        rw [if_pos hf]
        rfl
      have hset : Unit → rowsE m (aput vs (j : Int) (k, over L oo t.data.toList)) = (rowsE m vs).set j [.string k, .string (bstr (over L oo t.data.toList)), .bool true] := fun _ => by
        have e : aget (aput vs (j : Int) (k, over L oo t.data.toList)) (j : Int) = some (k, over L oo t.data.toList) := aget_aput_self _ _ _
        have := rowsE_set (m := m) (vs := vs) (vs' := aput vs (j : Int) (k, over L oo t.data.toList)) hjm fun l hl => aget_aput_ne vs _ (by omega)
        rw [e] at this
        exact this
      have hfit : oo + t.size ≤ L.length := by omega
      rw [hw]
      clear hw hg
      go_enter Try.func33, Try.ntmps33
      go_wp2_with fail
      refine (rThere H hK hb (j : Int) hx).mono ?_
      rw [hth]
      rintro e w' ⟨rfl, rfl⟩
      clear hth
      go_wp2_with fail
      refine (put19_ok L oo t _ hfit (by omega)).mono ?_
      rintro e w5 ⟨rfl, u5⟩
      have H2 := H1.upd u5
      have fx := H2.blk List.mem_cons_self
      have ffx := frozen_of fx 1
      have x1 := cell_of fx 1
      have lx := lt_of_heap fx
      simp only [List.getElem?_toArray, List.getElem?_cons_zero, List.getElem?_cons_succ] at x1
      have H3 := H2.set (o' := .cells #[.string k, .string (bstr (over L oo t.data.toList)), .bool true] 48 (0, 0)) ((Upd.refl [w.heap.size] w5).setCell ⟨w.heap.size, 1, none⟩ (.string (bstr (over L oo t.data.toList))) (.inl (by simp))) (by simpa using heap_setCell_same fx 1 _) hKn
      clear k0 k1 k2 H1 H2 u5 hr H
      go_upto_region 8 with fail
      clear fx ffx x1
      generalize w5.setCell ⟨w.heap.size, 1, none⟩ (.string (bstr (over L oo t.data.toList))) = w6 at *
      have fx := H3.blk List.mem_cons_self
      have x0 := cell_of fx 0
      have x1 := cell_of fx 1
      have x2 := cell_of fx 2
      simp only [List.getElem?_toArray, List.getElem?_cons_zero, List.getElem?_cons_succ] at x0 x1 x2
      have fr := H3.blk (List.mem_cons_of_mem _ hK)
      have c1 := cell_of fr 1
      have lt6 := lt_of_heap fr
      have lx6 := lt_of_heap fx
      simp only [List.getElem?_toArray, List.getElem?_cons_zero, List.getElem?_cons_succ] at c1
      obtain ⟨A, c', eA, hr, -⟩ := H3.parts
      rw [rowsE_len] at eA
      cases eA
      obtain ⟨b', off', eb, k0, k1, k2⟩ := row_cells hr hjm
      cases eb
      obtain ⟨rfl, ff, lb6⟩ := H3.free3 (i := j) (by rw [rowsE_len]; exact hjm)
      simp only [Nat.zero_add] at k0 k1 k2
      have f0 := ff (j * 3)
      have f1 := ff (j * 3 + 1)
      have f2 := ff (j * 3 + 2)
      have h5 := ((H3.set3 (i := j) (by rw [rowsE_len]; exact hjm) (.string k) (.string (bstr (over L oo t.data.toList))) (.bool true)).upd (Upd.refl [] _).drew).drop K (fun p hp => List.mem_cons_of_mem _ hp)
      rw [Nat.zero_add] at h5
      have hend : Unit → SepK w0 _ K (star (refR m (aput vs (j : Int) (k, over L oo t.data.toList)) (.slice (some ⟨b, 0, none⟩) m c)) T) := fun _ => by unfold refR; rw [hset ()]; exact h5
      unfold Ytagjcnhgappcjaa.set3 at hend
      clear hset H3 h5 ff hr fr fx
      generalize hgs : w.heap.size = xb at *
      clear hgs
      go_region
      all_goals go_wp2_with fail
      all_goals go_ret
      all_goals exact ⟨rfl, hend ()⟩
    · have hw : write size vs (j : Int) o t = (9, vs) := by
        unfold write
        rw [hg]
        simp only
        rw [if_neg hf]
      rw [hw]
      clear hw hg
      go_enter Try.func33, Try.ntmps33
      go_wp2_with fail
      refine (rThere H hK hb (j : Int) hx).mono ?_
      rw [hth]
      rintro e w' ⟨rfl, rfl⟩
      clear hth
      go_wp2_with fail
      refine (put19_no L o t _ (by rw [hL]; exact hf) (by omega) ht ho).mono ?_
      rintro e w5 ⟨rfl, rfl⟩
      go_wp2_with fail
      go_ret
      exact ⟨rfl, H1.drop K (fun p hp => List.mem_cons_of_mem _ hp)⟩
set_option maxRecDepth 100000 in
set_option maxHeartbeats 4000000 in
theorem rSlots (H : SepK w0 w K (star (refR m vs v) T)) (hK : (r, rblk size v) ∈ K) (hb : HB size (m : Int) vs) :
    Calls Try.prog 21 #[.pointer (some ⟨r, 0, none⟩)] w fun e w' => ∃ s, e = .returned s ∧ SepK w0 w' K (star (rowR 3 1 s (slotsV vs)) (star (refR m vs v) T)) := by
  have hm2 := hb.n2
  obtain ⟨i0, hi0, hz0, hz1, hz2⟩ := info_parts info3
  obtain ⟨A, c, rfl, -⟩ := H.parts
  rw [rowsE_len] at H hK ⊢
  have H0 := H.row0 3 1
  have hfin : slotsL (m : Int) vs m = keysOf vs := slotsL_eq hb
  have hll : ∀ i, i ≤ m → (slotsL (m : Int) vs i).length ≤ i := fun i hi => by
    unfold slotsL
    rw [List.length_map]
    exact Nat.le_trans (List.length_filter_le _ _) (by simp)
  clear H
  go_enter Try.func21, Try.ntmps21
  go_wp2_with fail
  go_loopg [3, 4] m (fun kq v3 v4 w' => ∃ i : Nat, v4 = .int .i64 (i : Int) ∧ kq + i = m ∧ SepK w0 w' K (star (rowR 3 1 v3 ((slotsL (m : Int) vs i).map encI)) (star (refR m vs (.slice A m c)) T)))
  case atStart => exact ⟨0, rfl, by omega, H0⟩
  case round =>
    clear H0
    obtain ⟨i, rfl, hk, H⟩ := hrel
    obtain ⟨A', c', eA, hr, -⟩ := H.tl.parts
    rw [rowsE_len] at eA
    cases eA
    have fr := H.blk hK
    have c1 := cell_of fr 1
    have lt := lt_of_heap fr
    simp only [List.getElem?_toArray, List.getElem?_cons_zero, List.getElem?_cons_succ] at c1
    by_cases hi : i < m
    · have z1 : decide ((i : Int) < (m : Int)) = true := decide_eq_true (by omega)
      obtain ⟨b, off, rfl, k0, k1, k2⟩ := row_cells hr hi
      have y1 : (0 : Int) ≤ (i : Int) := by omega
      have y2 : (i : Int) < (m : Int) := by omega
      have hmore : slotsL (m : Int) vs (i + 1) = slotsL (m : Int) vs i ++ if (aget vs (i : Int)).isSome then [(i : Int)] else [] := slotsL_more _ _ _
      have hl := hll i (by omega)
      cases hg : (aget vs (i : Int)).isSome with
      | false =>
        rw [hg] at k2 hmore
        simp only [Bool.false_eq_true, if_false, List.append_nil] at hmore
        have HM : Unit → slotsL (m : Int) vs (i + 1) = slotsL (m : Int) vs i := fun _ => hmore
        clear hmore hfin hg
        go_wp2_with fail
        go_roundg (gk - 1)
        case measure => omega
        case rel => exact ⟨i + 1, by go_num, by omega, by rw [HM ()]; exact H⟩
      | true =>
        rw [hg] at k2 hmore
        simp only [if_true] at hmore
        have HM : Unit → slotsL (m : Int) vs (i + 1) = slotsL (m : Int) vs i ++ [(i : Int)] := fun _ => hmore
        clear hmore hfin hg
        have H1 := H.alloc (.cells #[.int .i64 (i : Int)] 3)
        go_wp2_with (at_builtin; refine wl_append rfl _ _ 44 rfl 3 i0 (.int .i64 0) 1 8 Try.underlying44 hi0 hz0 hz1 hz2 rfl (by decide) _ _ rfl H1 ⟨wr.heap.size, 0, none⟩ 1 [.int .i64 (i : Int)] rfl rfl (cell_one_new _ _ _) (fun u hu => by simp at hu; subst hu; rfl) (by unfold maxLen; simp; omega) (by simp; omega) ?_; intro v' w5 H2)
        have H3 := H2.drop K (fun p hp => List.mem_cons_of_mem _ hp)
        go_roundg (gk - 1)
        case measure => omega
        case rel => exact ⟨i + 1, by go_num, by omega, by rw [HM (), List.map_append]; exact H3⟩
    · have z1 : decide ((i : Int) < (m : Int)) = false := decide_eq_false (by omega)
      obtain rfl : i = m := by omega
      have HF : Unit → slotsL (i : Int) vs i = keysOf vs := fun _ => hfin
      clear hfin
      go_wp2_with fail
      go_ret
      refine ⟨_, rfl, ?_⟩
      have := H
      rw [HF ()] at this
      exact this
end
end Go.Proofs.Ytagjcnhgappcjaa
