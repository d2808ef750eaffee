/- The document's answer for the heap: Free. -/
import Derived.Test.YtgleceijdedlkaaRef14d
namespace Go.Proofs.Ytgleceijdedlkaa
set_option linter.unusedSectionVars false
set_option linter.unusedVariables false
set_option linter.unusedSimpArgs false
open Go.RowKit
theorem delLenO (l : List Ob) (k : Nat) (hk : k < l.length) : (List.take k (l.map encO) ++ List.drop (k + 1) (l.map encO)).length = l.length - 1 := by
  simp
  omega
section
variable {w0 w : World} {K : List (Nat × Obj)} {T : Res} [Good T] {g s t : Nat} {room : Int} {vO vS vL vA : Value} {os : List Ob} {us : List (Int × List UInt8)} {l la : List (Int × Int)}
set_option maxRecDepth 100000 in
set_option maxHeartbeats 4000000 in
theorem gFree_no (H : SepK w0 w K (star (rowR 106 4 vO (os.map encO)) T)) (hK : (g, gblk s t vO) ∈ K) (q : Int × Int) (hat : posO os q = -1) (hl : os.length ≤ 10000) :
    Calls Try.prog 69 #[.pointer (some ⟨g, 0, none⟩), .agg #[.int .i64 q.1, .int .u64 q.2]] w fun e w' => e = .returned (.int .i64 130) ∧ SepK w0 w' K (star (rowR 106 4 vO (os.map encO)) T) := by
  have H1 := H.alloc (.cells #[.int .i64 q.1, .int .u64 q.2] 30)
  go_enter Try.func69, Try.ntmps69
  go_wp2_with fail
  refine (gAt H1 (List.mem_cons_of_mem _ hK) q (by omega)).mono ?_
  rw [hat]
  rintro e w1 ⟨rfl, u1⟩
  go_wp2_with fail
  go_ret
  exact ⟨rfl, (H1.upd u1).drop K (fun p hp => List.mem_cons_of_mem _ hp)⟩
set_option maxRecDepth 100000 in
set_option maxHeartbeats 4000000 in
theorem gFree_held (H : SepK w0 w K (star (rowR 106 4 vO (os.map encO)) T)) (hK : (g, gblk s t vO) ∈ K) (q : Int × Int) (i : Nat) (c k : Int) (hi : os[i]? = some (q, (c, k))) (hat : posO os q = (i : Int)) (hc : c ≠ 0) (hl : os.length ≤ 10000) :
    Calls Try.prog 69 #[.pointer (some ⟨g, 0, none⟩), .agg #[.int .i64 q.1, .int .u64 q.2]] w fun e w' => e = .returned (.int .i64 3) ∧ SepK w0 w' K (star (rowR 106 4 vO (os.map encO)) T) := by
  have H1 := H.alloc (.cells #[.int .i64 q.1, .int .u64 q.2] 30)
  go_enter Try.func69, Try.ntmps69
  go_wp2_with fail
  refine (gAt H1 (List.mem_cons_of_mem _ hK) q (by omega)).mono ?_
  rw [hat]
  rintro e w1 ⟨rfl, u1⟩
  have H2 := (H1.upd u1).drop K (fun p hp => List.mem_cons_of_mem _ hp)
  clear H1 u1 hat H
  have hil := (List.getElem?_eq_some_iff.1 hi).1
  obtain ⟨A, cc, rfl, hr, -⟩ := H2.parts
  rw [List.length_map] at hK H2
  obtain ⟨b, off, rfl, k0, k1, k2, k3⟩ := rowcellO hr hi
  have fr := H2.blk hK
  have c2 := cell_of fr 2
  have lt := lt_of_heap fr
  simp only [List.getElem?_toArray, List.getElem?_cons_zero, List.getElem?_cons_succ] at c2 k3
  clear hr fr
  have e1 : (0 : Int) ≤ (i : Int) := by omega
  have e2 : (i : Int) < (os.length : Int) := by omega
  have yz : (c != 0) = true := by simpa using hc
  clear hc
  go_wp2_with fail
  go_ret
  refine ⟨rfl, ?_⟩
  rw [List.length_map]
  exact H2
set_option maxRecDepth 100000 in
set_option maxHeartbeats 8000000 in
theorem gFree_ok (H : SepK w0 w ((g, gblk s t vO) :: (s, tblk room vS) :: (t, rblk vL vA) :: K) (star (rowR 106 4 vO (os.map encO)) (star (rowR 101 2 vS (us.map encT)) (star (rowR 30 2 vL (l.map encH)) (star (rowR 30 2 vA (la.map encH)) T))))) (hd : g ≠ s ∧ g ≠ t ∧ s ≠ t) (hKd : ∀ p ∈ K, p.1 ≠ g ∧ p.1 ≠ s ∧ p.1 ≠ t)
    (q : Int × Int) (i j m : Nat) (k : Int) (bs : List UInt8) (hi : os[i]? = some (q, (0, k))) (hat : posO os q = (i : Int)) (hj : l[j]? = some q) (hjt : atI l q.1 = (j : Int)) (hm : m < us.length) (hmt : posT us q.1 = (m : Int)) (hnd : (l.map (·.1)).Nodup) (ho : os.length ≤ 10000) (hu : us.length ≤ 10000) (hl : l.length ≤ 10000) :
    Calls Try.prog 69 #[.pointer (some ⟨g, 0, none⟩), .agg #[.int .i64 q.1, .int .u64 q.2]] w fun e w' => ∃ (vO' vS' vL' : Value), e = .returned (.int .i64 0) ∧
      SepK w0 w' ((g, gblk s t vO') :: (s, tblk room vS') :: (t, rblk vL' vA) :: K) (star (rowR 106 4 vO' ((os.take i ++ os.drop (i + 1)).map encO)) (star (rowR 101 2 vS' ((us.take m ++ us.drop (m + 1)).map encT)) (star (rowR 30 2 vL' ((l.take j ++ l.drop (j + 1)).map encH)) (star (rowR 30 2 vA (la.map encH)) T)))) := by
  have hb0K : ∀ p ∈ (g, gblk s t vO) :: (s, tblk room vS) :: (t, rblk vL vA) :: K, p.1 ≠ w.heap.size := fun p hp => Nat.ne_of_lt (lt_of_heap (H.blk (b := p.1) (o := p.2) hp))
  have H1 := H.alloc (.cells #[.int .i64 q.1, .int .u64 q.2] 30)
  generalize hb0 : w.heap.size = b0 at H1 hb0K
  have hgb : g ≠ b0 := hb0K (g, gblk s t vO) (by simp)
  have hsb : s ≠ b0 := hb0K (s, tblk room vS) (by simp)
  have htb : t ≠ b0 := hb0K (t, rblk vL vA) (by simp)
  have hKb : ∀ p ∈ K, p.1 ≠ b0 := fun p hp => hb0K p (by simp [hp])
  clear hb0K H
  go_enter Try.func69, Try.ntmps69
  go_wp2_with fail
  clear hb0
  refine (gAt H1 (List.mem_cons_of_mem _ List.mem_cons_self) q (by omega)).mono ?_
  rw [hat]
  rintro e w1 ⟨rfl, u1⟩
  have H2 := (H1.upd u1).drop ((g, gblk s t vO) :: (b0, .cells #[.int .i64 q.1, .int .u64 q.2] 30) :: (s, tblk room vS) :: (t, rblk vL vA) :: K) (by intro p hp; simp at hp ⊢; rcases hp with h | h | h | h | h <;> simp [h])
  clear H1 u1 hat
  have hil := (List.getElem?_eq_some_iff.1 hi).1
  obtain ⟨A, c, rfl, hr, hlc, hcm, hcA⟩ := H2.parts
  rw [List.length_map] at hlc H2
  obtain ⟨b, off, hA0, k0, k1, k2, k3⟩ := rowcellO hr hi
  subst hA0
  simp only at k3
  have fr := H2.blk List.mem_cons_self
  have c2 := cell_of fr 2
  have lt := lt_of_heap fr
  simp only [List.getElem?_toArray, List.getElem?_cons_zero, List.getElem?_cons_succ] at c2
  clear fr
  generalize hAA : (some ⟨b, off, none⟩ : Option Addr) = A at H2 hr hcA c2
  have pt := part_take (m := i) hr (by simp; omega) hcA
  obtain ⟨Ad, hAd⟩ : ∃ Ad, Ad = (if c = i + 1 then A else A.map fun a => a.add ((i + 1) * 4)) := ⟨_, rfl⟩
  have H5 := H2.row0 106 4
  obtain ⟨i0, hi0, hz0, hz1, hz2⟩ := info_parts info106
  have hrt := (orows (os.take i))
  rw [List.map_take] at hrt
  have hrd := (orows (os.drop (i + 1)))
  rw [List.map_drop] at hrd
  have e1 : (0 : Int) ≤ (i : Int) := by omega
  have e1' : (i : Int) < (os.length : Int) := by omega
  have e2 : (i : Int) ≤ (c : Int) := by omega
  have e3 : (i : Int) ≤ (os.length : Int) := by omega
  have e4 : (os.length : Int) ≤ (c : Int) := by omega
  have e5 : (i : Int) + 1 ≤ (os.length : Int) := by omega
  have hsl : ∀ w', (Instr.slice 107 (.slice A os.length c) (some (.int .i64 ((i : Int) + 1))) none none).run Try.prog w' = .ok (.slice Ad (os.length - (i + 1)) (c - (i + 1))) w' := fun w' => by
    rw [hAd]
    have e6 : ((i : Int) + 1) = ((i + 1 : Nat) : Int) := by omega
    rw [e6]
    have e7 : ((i + 1 : Nat) : Int) ≤ (os.length : Int) := by omega
    have e8 : (0 : Int) ≤ ((i + 1 : Nat) : Int) := by omega
    generalize i + 1 = m at e7 e8 ⊢
    by_cases hck : c = m
    · subst hck
      go_simp
    · have : ¬ m = c := fun e => hck e.symm
      go_simp
  have hAH : Unit → Ad = (if c = i + 1 then A else A.map fun a => a.add ((i + 1) * 4)) := fun _ => hAd
  have yz : ((0 : Int) != 0) = false := rfl
  clear hAd hr hi k0 k1 k2
  subst hAA
  go_wp2_with (first
    | (at_builtin; refine wl_part rfl (.tmp 21) (.tmp 27) 107 rfl 106 i0 (.agg #[.int .i64 0, .int .u64 0, .int .i64 0, .int .i64 0]) 4 32 Try.underlying107 hi0 hz0 hz1 hz2 rfl (by decide) (.slice none 0 0) [] rfl H5 (.slice _ i c) ((os.map encO).take i) rfl pt hrt.1 hrt.2 (by unfold maxLen; simp; omega) (by simp; omega) ?_; intro v1 w4 h6; rw [List.nil_append] at h6; have fr5 := h6.blk (b := g) List.mem_cons_self; have c05 := cell_of fr5 2; have lt5 := lt_of_heap fr5; simp only [List.getElem?_toArray, List.getElem?_cons_zero, List.getElem?_cons_succ] at c05; obtain ⟨hd1, hd2, hd3⟩ := h6.swap.partDT; have pd5 := part_drop (m := i + 1) hd1 (by simp; omega) hd2 hd3; rw [List.length_map, ← hAH ()] at pd5; clear hd1 hd2 hd3)
    | (at_builtin; refine wl_part rfl (.tmp 30) (.tmp 37) 107 rfl 106 i0 (.agg #[.int .i64 0, .int .u64 0, .int .i64 0, .int .i64 0]) 4 32 Try.underlying107 hi0 hz0 hz1 hz2 rfl (by decide) _ _ rfl h6 _ ((os.map encO).drop (i + 1)) rfl pd5 hrd.1 hrd.2 (by unfold maxLen; simp; omega) (by simp; omega) ?_; intro v3 w6 h9; obtain ⟨A9, c9, rfl, hr9⟩ := h9.row; clear hr9; rw [delLenO os i hil] at h9 ⊢; have fr6 := h9.blk (b := g) List.mem_cons_self; have c06 := cell_of fr6 2; have ff6 := frozen_of fr6 2; have lt6 := lt_of_heap fr6; simp only [List.getElem?_toArray, List.getElem?_cons_zero, List.getElem?_cons_succ] at c06))
  have h10 := h9.set (o' := gblk s t (.slice A9 (os.length - 1) c9)) ((Upd.refl [g] w6).setCell ⟨g, 2, none⟩ (.slice A9 (os.length - 1) c9) (.inl (by simp))) (by simpa [gblk] using heap_setCell_same fr6 2 _) (by intro p hp; simp at hp; rcases hp with rfl | rfl | rfl | hp; exact Ne.symm hgb; exact Ne.symm hd.1; exact Ne.symm hd.2.1; exact (hKd p hp).1)
  have e9 : (os.take i ++ os.drop (i + 1)).map encO = List.take i (os.map encO) ++ List.drop (i + 1) (os.map encO) := by simp
  have h11 := h10.imp fun _ g => star_imp g fun _ g => star_tail g
  rw [← e9] at h11
  clear h10 h9 h6 H5 H2 pt pd5 hrt hrd hi0 hz0 hz1 hz2 hsl hAH fr5 fr6 c05 c06 ff6 lt5 lt6 c2 lt k3 hcA
  generalize w6.setCell ⟨g, 2, none⟩ (.slice A9 (os.length - 1) c9) = w7 at h11 ⊢
  have h12 := (h11.upd (Upd.refl [] _).drew).pull2.drop ((t, rblk vL vA) :: (g, gblk s t (.slice A9 (os.length - 1) c9)) :: (b0, .cells #[.int .i64 q.1, .int .u64 q.2] 30) :: (s, tblk room vS) :: K) (by intro p hp; simp at hp ⊢; rcases hp with h | h | h | h | h <;> simp [h])
  have fg := h11.blk List.mem_cons_self
  have c1 := cell_of fg 1
  have lg := lt_of_heap fg
  have fb := h11.blk (b := b0) (o := .cells #[.int .i64 q.1, .int .u64 q.2] 30 (0, 0)) (by simp)
  have d0 := cell_of fb 0
  have d1 := cell_of fb 1
  have lb := lt_of_heap fb
  simp only [List.getElem?_toArray, List.getElem?_cons_zero, List.getElem?_cons_succ] at c1 d0 d1
  clear fg fb h11 e9
  go_region_with (go_at_call 42; refine (rDrop_ok h12 (by intro p hp; simp at hp; rcases hp with rfl | rfl | rfl | hp; exact hd.2.1; exact Ne.symm htb; exact hd.2.2; exact (hKd p hp).2.2) q j hj hjt hl hnd).mono ?_; rintro e w8 ⟨vL', rfl, h13⟩)
  all_goals
    have fg := h13.blk (b := g) (o := gblk s t (.slice A9 (os.length - 1) c9)) (by simp)
    have c1 := cell_of fg 0
    have lg := lt_of_heap fg
    have fb := h13.blk (b := b0) (o := .cells #[.int .i64 q.1, .int .u64 q.2] 30 (0, 0)) (by simp)
    have d0 := cell_of fb 0
    have lb := lt_of_heap fb
    simp only [List.getElem?_toArray, List.getElem?_cons_zero, List.getElem?_cons_succ] at c1 d0
    clear fg fb
    have h14 := (h13.upd (Upd.refl [] _).drew).pull2.drop ((s, tblk room vS) :: (t, rblk vL' vA) :: (g, gblk s t (.slice A9 (os.length - 1) c9)) :: (b0, .cells #[.int .i64 q.1, .int .u64 q.2] 30) :: K) (by intro p hp; simp at hp ⊢; rcases hp with h | h | h | h | h <;> simp [h])
    go_wp2_with fail
    go_region_with (go_at_call 77; refine (uGive_ok h14 (by intro p hp; simp at hp; rcases hp with rfl | rfl | rfl | hp; exact Ne.symm hd.2.2; exact hd.1; exact Ne.symm hsb; exact (hKd p hp).2.1) q.1 m hm hmt hu).mono ?_; rintro e w9 ⟨vS', rfl, h15⟩)
    all_goals
      go_wp2_with fail
      go_ret
      exact ⟨.slice A9 (os.length - 1) c9, vS', vL', rfl, h15.pull2.drop _ (by intro p hp; simp at hp ⊢; rcases hp with h | h | h | h <;> simp [h])⟩
end
end Go.Proofs.Ytgleceijdedlkaa
