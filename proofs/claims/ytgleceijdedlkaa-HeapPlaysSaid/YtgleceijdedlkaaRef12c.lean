/- The document's answer for the slab: Take. -/
import Derived.Test.YtgleceijdedlkaaRef12b
namespace Go.Proofs.Ytgleceijdedlkaa
set_option linter.unusedSectionVars false
set_option linter.unusedVariables false
set_option linter.unusedSimpArgs false
open Go.RowKit
theorem info101 : (Try.prog.info? 101).map (fun i => (i.zero, i.size, i.bytes)) = some (some (.agg #[.int .i64 0, .string ByteArray.empty]), 2, 24) := by kernel_rfl
theorem trows (l : List (Int × List UInt8)) : (∀ r ∈ l.map encT, r.length = 2) ∧ ∀ r ∈ l.map encT, ∀ u ∈ r, u.oneCell' = true := by
  constructor
  · intro r hr
    obtain ⟨q, _, rfl⟩ := List.mem_map.1 hr
    rfl
  · intro r hr u hu
    obtain ⟨q, _, rfl⟩ := List.mem_map.1 hr
    simp [encT] at hu
    rcases hu with rfl | rfl <;> rfl
theorem insLenT (l : List (Int × List UInt8)) (k : Nat) (h : List Value) (hk : k ≤ l.length) : (List.take k (l.map encT) ++ [h] ++ List.drop k (l.map encT)).length = l.length + 1 := by
  simp
  omega
theorem SepK.partDT {w0 w : World} {K : List (Nat × Obj)} {T : Res} {e : TypeId} {k n c : Nat} {A : Option Addr} {l : List (List Value)} (h : SepK w0 w K (star (rowR e k (.slice A n c) l) T)) : RowsAt w A k l ∧ l.length ≤ c ∧ (A = none → c = 0) := by
  obtain ⟨A', c', e, h1, h2, h3, h4⟩ := h.parts
  cases e
  exact ⟨h1, h2, h4⟩
/-- Where a new one is put. -/
def InsT (l : List (Int × List UInt8)) (k : Nat) : Prop := k ≤ l.length ∧ (∀ j, j < k → ∀ p, l[j]? = some p → p.1 = (j : Int)) ∧ ∀ p, l[k]? = some p → p.1 ≠ (k : Int)
section
variable {w0 w : World} {K : List (Nat × Obj)} {T : Res} [Good T] {r : Nat} {room : Int} {vL : Value} {l : List (Int × List UInt8)}
set_option maxRecDepth 100000 in
set_option maxHeartbeats 4000000 in
theorem uTake_arg (n : Int) (hn : okc n = false) (rv : Value) :
    Calls Try.prog 76 #[rv, .int .i64 n] w fun e w' => e = .returned (.tuple #[.int .i64 0, .int .i64 2]) ∧ w = w' := by
  have hc := cls_bad hn
  go_enter Try.func76, Try.ntmps76
  go_wp2_with (go_at_call 59; refine (refClass_spec _ _).mono ?_; rintro e w1 ⟨rfl, rfl⟩; rw [hc])
  refine bodyPost_ret (v := .tuple #[.int .i64 0, .int .i64 2]) (by simp [results, Try.results76, go_sem]) rfl ⟨rfl, rfl⟩
set_option maxRecDepth 100000 in
set_option maxHeartbeats 4000000 in
theorem uTake_full (H : SepK w0 w K (star (rowR 101 2 vL (l.map encT)) T)) (hK : (r, tblk room vL) ∈ K) (n : Int) (hn : okc n = true) (hr : room < usedOf l + cls n) (hl : l.length ≤ 10000) (hb : ∀ p ∈ l, p.2.length ≤ 1000) :
    Calls Try.prog 76 #[.pointer (some ⟨r, 0, none⟩), .int .i64 n] w fun e w' => e = .returned (.tuple #[.int .i64 0, .int .i64 6]) ∧ SepK w0 w' K (star (rowR 101 2 vL (l.map encT)) T) := by
  obtain ⟨b1, b2, -⟩ := cls_bd hn
  have u1 := usedOf_le l
  have u2 := usedOf_nonneg l
  have fr := H.blk hK
  have c0 := cell_of fr 0
  have lt := lt_of_heap fr
  simp only [List.getElem?_toArray, List.getElem?_cons_zero, List.getElem?_cons_succ] at c0
  have yc : (cls n == 0) = false := by simp; omega
  have yw : IntKind.i64.wrap (usedOf l + cls n) = usedOf l + cls n := IntWalk.i64_in _ (by omega)
  have yf : decide (room < usedOf l + cls n) = true := decide_eq_true hr
  clear fr
  have hU : ∀ m, Calls Try.prog 55 #[.pointer (some ⟨r, 0, none⟩)] (w.drewN m) fun e w' => e = .returned (.int .i64 (usedOf l)) ∧ w' = w.drewN m := fun m => (uUsed (H.upd ((Upd.refl [] w).drewN m)) hK (by omega) hb).mono fun e w' ⟨a, b⟩ => ⟨a, b.symm⟩
  go_enter Try.func76, Try.ntmps76
  go_wp2_with (go_at_call 59; refine (refClass_spec _ _).mono ?_; rintro e w1 ⟨rfl, rfl⟩)
  go_quiet ((go_at_call 55; exact Calls.quiet_of_same (hU _)))
  go_wp2_with fail
  refine bodyPost_ret (v := .tuple #[.int .i64 0, .int .i64 6]) (by simp [results, Try.results76, go_sem]) rfl ⟨rfl, H.upd ((Upd.refl [] _).drewN _)⟩
set_option maxRecDepth 100000 in
set_option maxHeartbeats 8000000 in
theorem uTake_ok (H : SepK w0 w ((r, tblk room vL) :: K) (star (rowR 101 2 vL (l.map encT)) T)) (hKr : ∀ p ∈ K, p.1 ≠ r) (n : Int) (hn : okc n = true) (hfit : usedOf l + cls n ≤ room) (hl : l.length ≤ 10000) (hb : ∀ p ∈ l, p.2.length ≤ 1000) :
    Calls Try.prog 76 #[.pointer (some ⟨r, 0, none⟩), .int .i64 n] w fun e w' => ∃ (vL' : Value) (k : Nat), InsT l k ∧ e = .returned (.tuple #[.int .i64 (k : Int), .int .i64 0]) ∧ SepK w0 w' ((r, tblk room vL') :: K) (star (rowR 101 2 vL' ((l.take k ++ ((k : Int), List.replicate n.toNat (0 : UInt8)) :: l.drop k).map encT)) T) := by
  obtain ⟨b1, b2, b3, b4, -⟩ := cls_bd hn
  have u1 := usedOf_le l
  have u2 := usedOf_nonneg l
  have fr := H.blk List.mem_cons_self
  have c0 := cell_of fr 0
  have lt := lt_of_heap fr
  simp only [List.getElem?_toArray, List.getElem?_cons_zero, List.getElem?_cons_succ] at c0
  have yc : (cls n == 0) = false := by simp; omega
  have yw : IntKind.i64.wrap (usedOf l + cls n) = usedOf l + cls n := IntWalk.i64_in _ (by omega)
  have yf : decide (room < usedOf l + cls n) = false := decide_eq_false (by omega)
  clear fr
  have hU : ∀ m, Calls Try.prog 55 #[.pointer (some ⟨r, 0, none⟩)] (w.drewN m) fun e w' => e = .returned (.int .i64 (usedOf l)) ∧ w' = w.drewN m := fun m => (uUsed (H.upd ((Upd.refl [] w).drewN m)) List.mem_cons_self (by omega) hb).mono fun e w' ⟨a, b⟩ => ⟨a, b.symm⟩
  go_enter Try.func76, Try.ntmps76
  go_wp2_with (go_at_call 59; refine (refClass_spec _ _).mono ?_; rintro e w1 ⟨rfl, rfl⟩)
  go_quiet ((go_at_call 55; exact Calls.quiet_of_same (hU _)))
  clear hU c0 yc yw yf
  have H4 := H.upd ((Upd.refl [] w).drewN nq)
  clear H lt
  generalize w.drewN nq = w3 at H4 ⊢
  obtain ⟨A, c, rfl, hr4, hlc, hcm, hcA⟩ := H4.parts
  rw [List.length_map] at hlc H4
  have fr := H4.blk List.mem_cons_self
  have c0 := cell_of fr 1
  have lt := lt_of_heap fr
  simp only [List.getElem?_toArray, List.getElem?_cons_zero, List.getElem?_cons_succ] at c0
  clear fr
  go_wp2_with fail
  go_loopg [7] l.length (fun kq v7 w' => ∃ k : Nat, v7 = .int .i64 (k : Int) ∧ kq + k = l.length ∧ w3 = w' ∧ ∀ j, j < k → ∀ p, l[j]? = some p → p.1 = (j : Int))
  case atStart => exact ⟨0, rfl, rfl, rfl, fun j hj => by omega⟩
  case round =>
    obtain ⟨k, rfl, hk, rfl, hn'⟩ := hrel
    have hnH : Unit → ∀ j, j < k → ∀ p, l[j]? = some p → p.1 = (j : Int) := fun _ => hn'
    clear hn'
    have hgo : (∃ q, l[k]? = some q ∧ q.1 = (k : Int)) ∨ ((l.length ≤ k ∨ ∃ q, l[k]? = some q ∧ ¬ q.1 = (k : Int))) := by
      by_cases h : k < l.length
      · by_cases h2 : (l[k]).1 = (k : Int)
        · exact .inl ⟨_, List.getElem?_eq_getElem h, h2⟩
        · exact .inr (.inr ⟨_, List.getElem?_eq_getElem h, h2⟩)
      · exact .inr (.inl (by omega))
    rcases hgo with ⟨q, hq, hqs⟩ | hgo
    · have hkl := (List.getElem?_eq_some_iff.1 hq).1
      have z1 : decide ((k : Int) < (l.length : Int)) = true := decide_eq_true (by omega)
      obtain ⟨b, off, rfl, k0, k1⟩ := rowcellT hr4 hq
      have z2 : (q.1 == (k : Int)) = true := by simpa using hqs
      have hn2 : Unit → ∀ j, j < k + 1 → ∀ p, l[j]? = some p → p.1 = (j : Int) := fun _ j hj p hp => by
        by_cases e : j = k
        · subst e
          rw [hq] at hp
          cases hp
          exact hqs
        · exact hnH () j (by omega) p hp
      clear hr4 hqs
      go_wp2_with fail
      go_roundg (gk - 1)
      case measure => omega
      case rel => exact ⟨k + 1, by go_num, by omega, rfl, hn2 ()⟩
    · have hins : InsT l k := ⟨by omega, hnH (), fun p hp => by
        rcases hgo with h | ⟨q, hq, hqs⟩
        · rw [List.getElem?_eq_none (by omega)] at hp
          cases hp
        · rw [hq] at hp
          cases hp
          exact hqs⟩
      have hkl : k ≤ l.length := hins.1
      have pt := part_take (m := k) hr4 (by simpa using hkl) hcA
      have pd := part_drop (m := k) hr4 (by simpa using hkl) (by simpa using hlc) hcA
      rw [List.length_map] at pd
      have H5 := H4.row0 101 2
      obtain ⟨i0, hi0, hz0, hz1, hz2⟩ := info_parts info101
      have hrt := (trows (l.take k))
      rw [List.map_take] at hrt
      have hrd := (trows (l.drop k))
      rw [List.map_drop] at hrd
      obtain ⟨Ad, hAd⟩ : ∃ Ad, Ad = (if c = k then A else A.map fun a => a.add (k * 2)) := ⟨_, rfl⟩
      have w1 : (0 : Int) ≤ (k : Int) := by omega
      have w2' : (k : Int) ≤ (c : Int) := by omega
      have w4 : (k : Int) ≤ (l.length : Int) := by omega
      have w5 : (l.length : Int) ≤ (c : Int) := by omega
      have hsl : ∀ w', (Instr.slice 94 (.slice A l.length c) (some (.int .i64 (k : Int))) none none).run Try.prog w' = .ok (.slice Ad (l.length - k) (c - k)) w' := fun w' => by
        rw [hAd]
        by_cases hck : c = k
        · subst hck
          go_simp
        · have : ¬ k = c := fun e => hck e.symm
          go_simp
      have hmk : ∀ w', (Instr.makeSlice 36 (.int .i64 n) (.int .i64 n)).run Try.prog w' = .ok (.slice (some ⟨w'.heap.size, 0, none⟩) n.toNat n.toNat) (w'.alloc (zb n.toNat)) := fun w' => make_bytes Try.underlying36 info5 w' n (by omega) (by omega)
      have hcv : ∀ w' : World, (convert 36 9 (.slice (some ⟨w'.heap.size, 0, none⟩) n.toNat n.toNat)).run Try.prog (w'.alloc (zb n.toNat)) = .ok (.string (bstr (List.replicate n.toNat 0))) (w'.alloc (zb n.toNat)) := fun w' => by
        have := (BytesAt.made (e := 5) w' n.toNat).conv (P := Try.prog) Try.underlying36 Try.underlying5 Try.underlying9 0 n.toNat n.toNat (by simp)
        rw [List.drop_zero, List.take_of_length_le (by simp)] at this
        exact this
      rw [← hAd] at pd
      have hAH : Unit → Ad = (if c = k then A else A.map fun a => a.add (k * 2)) := fun _ => hAd
      clear hAd pd
      have hz : ¬ k < l.length ∨ (k < l.length ∧ ∃ q, l[k]? = some q ∧ ¬ q.1 = (k : Int)) := by
        rcases hgo with h | ⟨q, hq, hqs⟩
        · exact .inl (by omega)
        · exact .inr ⟨(List.getElem?_eq_some_iff.1 hq).1, q, hq, hqs⟩
      clear hgo
      rcases hz with z1 | ⟨z1, q, hq, hqs⟩
      · have z1' : decide ((k : Int) < (l.length : Int)) = false := decide_eq_false (by omega)
        clear hr4 lt c0
        have fr := H5.blk (b := r) List.mem_cons_self
        have c0 := cell_of fr 1
        have lt := lt_of_heap fr
        simp only [List.getElem?_toArray, List.getElem?_cons_zero, List.getElem?_cons_succ] at c0
        clear fr
        go_wp2_with (first
          | (at_builtin; refine wl_part rfl (.tmp 43) (.tmp 49) 94 rfl 101 i0 (.agg #[.int .i64 0, .string ByteArray.empty]) 2 24 Try.underlying94 hi0 hz0 hz1 hz2 rfl (by decide) (.slice none 0 0) [] rfl H5 (.slice A k c) ((l.map encT).take k) rfl pt hrt.1 hrt.2 (by unfold maxLen; simp; omega) (by simp; omega) ?_; intro v1 w4 h6; rw [List.nil_append] at h6; have h7 := (h6.upd ((Upd.refl [] w4).alloc (zb n.toNat))).alloc (.cells #[.int .i64 (k : Int), .string (bstr (List.replicate n.toNat 0))] 101))
          | (at_builtin; refine wl_append rfl (.tmp 51) (.tmp 57) 94 rfl 101 i0 (.agg #[.int .i64 0, .string ByteArray.empty]) 2 24 Try.underlying94 hi0 hz0 hz1 hz2 rfl (by decide) _ _ rfl h7 ⟨w4.heap.size + 1, 0, none⟩ 1 [.int .i64 (k : Int), .string (bstr (List.replicate n.toNat 0))] rfl rfl (fun j u hj => by have h0 := (alloc_size w4 (zb n.toNat)) ▸ cell_two_new (w4.alloc (zb n.toNat)) (.int .i64 (k : Int)) (.string (bstr (List.replicate n.toNat 0))) 101 j u hj; exact h0) (fun x hx => by simp at hx; rcases hx with rfl | rfl <;> rfl) (by unfold maxLen; simp; omega) (by simp; omega) ?_; intro v2 w5 h8; have fr5 := h8.blk (b := r) (List.mem_cons_of_mem _ List.mem_cons_self); have c05 := cell_of fr5 1; have lt5 := lt_of_heap fr5; simp only [List.getElem?_toArray, List.getElem?_cons_zero, List.getElem?_cons_succ] at c05; obtain ⟨hd1, hd2, hd3⟩ := h8.swap.partDT; have pd5 := part_drop (m := k) hd1 (by simpa using hkl) hd2 hd3; rw [List.length_map, ← hAH ()] at pd5; clear hd1 hd2 hd3)
          | (at_builtin; refine wl_part rfl (.tmp 60) (.tmp 66) 94 rfl 101 i0 (.agg #[.int .i64 0, .string ByteArray.empty]) 2 24 Try.underlying94 hi0 hz0 hz1 hz2 rfl (by decide) _ _ rfl h8 _ ((l.map encT).drop k) rfl pd5 hrd.1 hrd.2 (by unfold maxLen; simp; omega) (by simp; omega) ?_; intro v3 w6 h9; obtain ⟨A9, c9, rfl, hr9⟩ := h9.row; clear hr9; rw [insLenT l k _ hkl] at h9 ⊢; have fr6 := h9.blk (b := r) (List.mem_cons_of_mem _ List.mem_cons_self); have c06 := cell_of fr6 1; have ff6 := frozen_of fr6 1; have lt6 := lt_of_heap fr6; simp only [List.getElem?_toArray, List.getElem?_cons_zero, List.getElem?_cons_succ] at c06))
        have h10 := (h9.drop ((r, tblk room (.slice A l.length c)) :: K) (fun p hp => List.mem_cons_of_mem _ hp)).set (o' := tblk room (.slice A9 (l.length + 1) c9)) ((Upd.refl [r] w6).setCell ⟨r, 1, none⟩ (.slice A9 (l.length + 1) c9) (.inl (by simp))) (by simpa [tblk] using heap_setCell_same fr6 1 _) hKr
        refine bodyPost_ret (v := .tuple #[.int .i64 (k : Int), .int .i64 0]) (by simp [results, Try.results76, go_sem]) rfl ⟨.slice A9 (l.length + 1) c9, k, hins, rfl, ?_⟩
        have e2 : (l.take k ++ ((k : Int), List.replicate n.toNat (0 : UInt8)) :: l.drop k).map encT = List.take k (l.map encT) ++ [[.int .i64 (k : Int), .string (bstr (List.replicate n.toNat 0))]] ++ List.drop k (l.map encT) := by simp [encT, List.map_take, List.map_drop]
        rw [e2]
        exact h10.imp fun _ g => star_imp g fun _ g => star_tail g
      · have z1' : decide ((k : Int) < (l.length : Int)) = true := decide_eq_true (by omega)
        obtain ⟨b, off, rfl, k0, k1⟩ := rowcellT hr4 hq
        have z2 : (q.1 == (k : Int)) = false := by simpa using hqs
        clear hqs
        clear hr4 lt c0
        have fr := H5.blk (b := r) List.mem_cons_self
        have c0 := cell_of fr 1
        have lt := lt_of_heap fr
        simp only [List.getElem?_toArray, List.getElem?_cons_zero, List.getElem?_cons_succ] at c0
        clear fr
        go_wp2_with (first
          | (at_builtin; refine wl_part rfl (.tmp 43) (.tmp 49) 94 rfl 101 i0 (.agg #[.int .i64 0, .string ByteArray.empty]) 2 24 Try.underlying94 hi0 hz0 hz1 hz2 rfl (by decide) (.slice none 0 0) [] rfl H5 (.slice (some ⟨b, off, none⟩) k c) ((l.map encT).take k) rfl pt hrt.1 hrt.2 (by unfold maxLen; simp; omega) (by simp; omega) ?_; intro v1 w4 h6; rw [List.nil_append] at h6; have h7 := (h6.upd ((Upd.refl [] w4).alloc (zb n.toNat))).alloc (.cells #[.int .i64 (k : Int), .string (bstr (List.replicate n.toNat 0))] 101))
          | (at_builtin; refine wl_append rfl (.tmp 51) (.tmp 57) 94 rfl 101 i0 (.agg #[.int .i64 0, .string ByteArray.empty]) 2 24 Try.underlying94 hi0 hz0 hz1 hz2 rfl (by decide) _ _ rfl h7 ⟨w4.heap.size + 1, 0, none⟩ 1 [.int .i64 (k : Int), .string (bstr (List.replicate n.toNat 0))] rfl rfl (fun j u hj => by have h0 := (alloc_size w4 (zb n.toNat)) ▸ cell_two_new (w4.alloc (zb n.toNat)) (.int .i64 (k : Int)) (.string (bstr (List.replicate n.toNat 0))) 101 j u hj; exact h0) (fun x hx => by simp at hx; rcases hx with rfl | rfl <;> rfl) (by unfold maxLen; simp; omega) (by simp; omega) ?_; intro v2 w5 h8; have fr5 := h8.blk (b := r) (List.mem_cons_of_mem _ List.mem_cons_self); have c05 := cell_of fr5 1; have lt5 := lt_of_heap fr5; simp only [List.getElem?_toArray, List.getElem?_cons_zero, List.getElem?_cons_succ] at c05; obtain ⟨hd1, hd2, hd3⟩ := h8.swap.partDT; have pd5 := part_drop (m := k) hd1 (by simpa using hkl) hd2 hd3; rw [List.length_map, ← hAH ()] at pd5; clear hd1 hd2 hd3)
          | (at_builtin; refine wl_part rfl (.tmp 60) (.tmp 66) 94 rfl 101 i0 (.agg #[.int .i64 0, .string ByteArray.empty]) 2 24 Try.underlying94 hi0 hz0 hz1 hz2 rfl (by decide) _ _ rfl h8 _ ((l.map encT).drop k) rfl pd5 hrd.1 hrd.2 (by unfold maxLen; simp; omega) (by simp; omega) ?_; intro v3 w6 h9; obtain ⟨A9, c9, rfl, hr9⟩ := h9.row; clear hr9; rw [insLenT l k _ hkl] at h9 ⊢; have fr6 := h9.blk (b := r) (List.mem_cons_of_mem _ List.mem_cons_self); have c06 := cell_of fr6 1; have ff6 := frozen_of fr6 1; have lt6 := lt_of_heap fr6; simp only [List.getElem?_toArray, List.getElem?_cons_zero, List.getElem?_cons_succ] at c06))
        have h10 := (h9.drop ((r, tblk room (.slice (some ⟨b, off, none⟩) l.length c)) :: K) (fun p hp => List.mem_cons_of_mem _ hp)).set (o' := tblk room (.slice A9 (l.length + 1) c9)) ((Upd.refl [r] w6).setCell ⟨r, 1, none⟩ (.slice A9 (l.length + 1) c9) (.inl (by simp))) (by simpa [tblk] using heap_setCell_same fr6 1 _) hKr
        refine bodyPost_ret (v := .tuple #[.int .i64 (k : Int), .int .i64 0]) (by simp [results, Try.results76, go_sem]) rfl ⟨.slice A9 (l.length + 1) c9, k, hins, rfl, ?_⟩
        have e2 : (l.take k ++ ((k : Int), List.replicate n.toNat (0 : UInt8)) :: l.drop k).map encT = List.take k (l.map encT) ++ [[.int .i64 (k : Int), .string (bstr (List.replicate n.toNat 0))]] ++ List.drop k (l.map encT) := by simp [encT, List.map_take, List.map_drop]
        rw [e2]
        exact h10.imp fun _ g => star_imp g fun _ g => star_tail g
end
end Go.Proofs.Ytgleceijdedlkaa
