/- The document's answer for the table of handles: Make. -/
import Derived.Test.YtgleceijdedlkaaRef13b
namespace Go.Proofs.Ytgleceijdedlkaa
open Go.RowKit
set_option linter.unusedVariables false
set_option linter.unusedSimpArgs false
set_option linter.unusedSectionVars false
theorem hrows (l : List (Int × Int)) : (∀ r ∈ l.map encH, r.length = 2) ∧ ∀ r ∈ l.map encH, ∀ u ∈ r, u.oneCell' = true := by
  constructor
  · intro r hr
    obtain ⟨q, _, rfl⟩ := List.mem_map.1 hr
    rfl
  · intro r hr u hu
    obtain ⟨q, _, rfl⟩ := List.mem_map.1 hr
    simp [encH] at hu
    rcases hu with rfl | rfl <;> rfl
theorem insLen (l : List (Int × Int)) (k : Nat) (h : List Value) (hk : k ≤ l.length) : (List.take k (l.map encH) ++ [h] ++ List.drop k (l.map encH)).length = l.length + 1 := by
  simp
  omega
theorem SepK.partD {w0 w : World} {K : List (Nat × Obj)} {T : Res} {e : TypeId} {k n c : Nat} {A : Option Addr} {l : List (List Value)} (h : SepK w0 w K (star (rowR e k (.slice A n c) l) T)) : RowsAt w A k l ∧ l.length ≤ c ∧ (A = none → c = 0) := by
  obtain ⟨A', c', e, h1, h2, h3, h4⟩ := h.parts
  cases e
  exact ⟨h1, h2, h4⟩
section
variable {w0 w : World} {K : List (Nat × Obj)} {T : Res} [Good T] {r : Nat} {vL vA : Value} {l la : List (Int × Int)}
/-- Where a slot's one is put. -/
def InsAt (l : List (Int × Int)) (s : Int) (k : Nat) : Prop := k ≤ l.length ∧ (∀ j, j < k → ∀ p, l[j]? = some p → p.1 < s) ∧ ∀ p, l[k]? = some p → ¬ p.1 < s
set_option maxRecDepth 100000 in
set_option maxHeartbeats 8000000 in
theorem rMake (H : SepK w0 w ((r, rblk vL vA) :: K) (star (rowR 30 2 vL (l.map encH)) (star (rowR 30 2 vA (la.map encH)) T))) (hKr : ∀ p ∈ K, p.1 ≠ r) (s : Int) (h0 : 0 ≤ s) (hat : atI l s = -1) (hl : l.length ≤ 10000) (hla : la.length ≤ 10000) :
    Calls Try.prog 43 #[.pointer (some ⟨r, 0, none⟩), .int .i64 s] w fun e w' => ∃ vL' vA' k, InsAt l s k ∧ e = .returned (.tuple #[.agg #[.int .i64 s, .int .u64 (genOf la s)], .int .i64 0]) ∧ SepK w0 w' ((r, rblk vL' vA') :: K) (star (rowR 30 2 vL' ((l.take k ++ (s, genOf la s) :: l.drop k).map encH)) (star (rowR 30 2 vA' ((aput la s (genOf la s)).map encH)) T)) := by
  have fr := H.blk List.mem_cons_self
  have lt := lt_of_heap fr
  have hKb0 : ∀ p ∈ K, p.1 ≠ w.heap.size := fun p hp => Nat.ne_of_lt (lt_of_heap (H.blk (b := p.1) (o := p.2) (List.mem_cons_of_mem _ hp)))
  have z0 : decide (s < 0) = false := decide_eq_false (by omega)
  have H1 := H.alloc (.cells #[.int .i64 0, .int .u64 0] 30)
  clear fr
  go_enter Try.func43, Try.ntmps43
  go_wp2_with fail
  refine (rAt H1 (List.mem_cons_of_mem _ List.mem_cons_self) s (by omega)).mono ?_
  rintro e w1 ⟨rfl, rfl⟩
  rw [hat]
  go_wp2_with fail
  have H2 := (H1.swap).drop ((r, rblk vL vA) :: (w.heap.size, .cells #[.int .i64 0, .int .u64 0] 30) :: K) (by intro p hp; simp at hp ⊢; rcases hp with h | h | h <;> simp [h])
  refine (rGen H2 (by intro p hp; rcases List.mem_cons.1 hp with rfl | hp; exact Nat.ne_of_gt lt; exact hKr p hp) s (by omega)).mono ?_
  rintro e w2 ⟨vA', rfl, H3⟩
  clear H1 H2 hat
  generalize hgg : genOf la s = gg at H3 ⊢
  generalize hla2 : aput la s gg = la2 at H3 ⊢
  have hgH : Unit → genOf la s = gg := fun _ => hgg
  have hlH : Unit → aput la s (genOf la s) = la2 := fun _ => by rw [hgg]; exact hla2
  clear hgg hla2
  have l4b := lt_of_heap (H3.blk (b := w.heap.size) (List.mem_cons_of_mem _ List.mem_cons_self))
  generalize hb4 : w.heap.size = b4 at H3 lt l4b hKb0 ⊢
  clear hb4
  replace H3 := H3.swap
  obtain ⟨A, c, rfl, hr, hlc, hcm, hcA⟩ := H3.parts
  rw [List.length_map] at hlc H3
  clear H
  have H4 := H3.alloc (.cells #[.int .i64 s, .int .u64 gg] 30)
  have hr4 : RowsAt (w2.alloc (.cells #[.int .i64 s, .int .u64 gg] 30)) A 2 (l.map encH) := hr.keep ((Upd.refl [] w2).alloc _)
  clear H3 hr
  go_wp2_with fail
  generalize hb6 : w2.heap.size = b6 at H4 l4b ⊢
  generalize hw3 : w2.alloc (.cells #[.int .i64 s, .int .u64 gg] 30) = w3 at H4 hr4 ⊢
  clear hb6 hw3
  have fr := H4.blk (b := r) (List.mem_cons_of_mem _ List.mem_cons_self)
  have n1 : b6 ≠ r := by omega
  have n2 : r ≠ b6 := by omega
  have n3 : b4 ≠ r := by omega
  have n4 : r ≠ b4 := by omega
  have n5 : b4 ≠ b6 := by omega
  have n6 : b6 ≠ b4 := by omega
  clear lt l4b
  have c0 := cell_of fr 0
  have lt := lt_of_heap fr
  simp only [List.getElem?_toArray, List.getElem?_cons_zero, List.getElem?_cons_succ] at c0
  clear fr
  go_loopg [7] l.length (fun kq v7 w' => ∃ k : Nat, v7 = .int .i64 (k : Int) ∧ kq + k = l.length ∧ w3 = w' ∧ ∀ j, j < k → ∀ p, l[j]? = some p → p.1 < s)
  case atStart => exact ⟨0, rfl, rfl, rfl, fun j hj => by omega⟩
  case round =>
    obtain ⟨k, rfl, hk, rfl, hn⟩ := hrel
    have hnH : Unit → ∀ j, j < k → ∀ p, l[j]? = some p → p.1 < s := fun _ => hn
    clear hn
    have hgo : (∃ q, l[k]? = some q ∧ q.1 < s) ∨ ((l.length ≤ k ∨ ∃ q, l[k]? = some q ∧ ¬ q.1 < s)) := by
      by_cases h : k < l.length
      · by_cases h2 : (l[k]).1 < s
        · exact .inl ⟨_, List.getElem?_eq_getElem h, h2⟩
        · exact .inr (.inr ⟨_, List.getElem?_eq_getElem h, h2⟩)
      · exact .inr (.inl (by omega))
    rcases hgo with ⟨q, hq, hqs⟩ | hgo
    · have hkl := (List.getElem?_eq_some_iff.1 hq).1
      have z1 : decide ((k : Int) < (l.length : Int)) = true := decide_eq_true (by omega)
      obtain ⟨b, off, rfl, k0, k1⟩ := rowcell (k := 0) (c := 0) hr4 hq
      have z2 : decide (q.1 < s) = true := decide_eq_true hqs
      have hn2 : Unit → ∀ j, j < k + 1 → ∀ p, l[j]? = some p → p.1 < s := fun _ j hj p hp => by
        by_cases e : j = k
        · subst e
          rw [hq] at hp
          cases hp
          exact hqs
        · exact hnH () j (by omega) p hp
      clear hr4
      go_wp2_with fail
      go_roundg (gk - 1)
      case measure => omega
      case rel => exact ⟨k + 1, by go_num, by omega, rfl, hn2 ()⟩
    · have hins : InsAt l s k := ⟨by omega, hnH (), fun p hp => by
        rcases hgo with h | ⟨q, hq, hqs⟩
        · rw [List.getElem?_eq_none (by omega)] at hp
          cases hp
        · rw [hq] at hp
          cases hp
          exact hqs⟩
      have hkl : k ≤ l.length := hins.1
      have pt := part_take (m := k) hr4 (by simpa using hkl) hcA
      have pd := part_drop (m := k) hr4 (by simpa using hkl) (by simpa using hlc) hcA
      rw [List.length_map] at pd
      have H5 := H4.row0 30 2
      obtain ⟨i0, hi0, hz0, hz1, hz2⟩ := info_parts info30
      have hrt := (hrows (l.take k))
      rw [List.map_take] at hrt
      have hrd := (hrows (l.drop k))
      rw [List.map_drop] at hrd
      obtain ⟨Ad, hAd⟩ : ∃ Ad, Ad = (if c = k then A else A.map fun a => a.add (k * 2)) := ⟨_, rfl⟩
      have w1 : (0 : Int) ≤ (k : Int) := by omega
      have w2' : (k : Int) ≤ (c : Int) := by omega
      have w4 : (k : Int) ≤ (l.length : Int) := by omega
      have w5 : (l.length : Int) ≤ (c : Int) := by omega
      have hsl : ∀ w', (Instr.slice 54 (.slice A l.length c) (some (.int .i64 (k : Int))) none none).run Try.prog w' = .ok (.slice Ad (l.length - k) (c - k)) w' := fun w' => by
        rw [hAd]
        by_cases hck : c = k
        · subst hck
          go_simp
        · have : ¬ k = c := fun e => hck e.symm
          go_simp
      rw [← hAd] at pd
      have hAH : Unit → Ad = (if c = k then A else A.map fun a => a.add (k * 2)) := fun _ => hAd
      clear hAd pd
      have hz : ¬ k < l.length ∨ (k < l.length ∧ ∃ q, l[k]? = some q ∧ ¬ q.1 < s) := by
        rcases hgo with h | ⟨q, hq, hqs⟩
        · exact .inl (by omega)
        · exact .inr ⟨(List.getElem?_eq_some_iff.1 hq).1, q, hq, hqs⟩
      clear hgo
      rcases hz with z1 | ⟨z1, q, hq, hqs⟩
      · go_wp2_with (first
          | (at_builtin; refine wl_part rfl (.tmp 43) (.tmp 49) 54 rfl 30 i0 (.agg #[.int .i64 0, .int .u64 0]) 2 16 Try.underlying54 hi0 hz0 hz1 hz2 rfl (by decide) (.slice none 0 0) [] rfl H5 (.slice A k c) ((l.map encH).take k) rfl pt hrt.1 hrt.2 (by unfold maxLen; simp; omega) (by simp; omega) ?_; intro v1 w4 h6; rw [List.nil_append] at h6; have f6 := h6.blk (b := b6) List.mem_cons_self; have q60 := cell_of f6 0; have q61 := cell_of f6 1; have l6 := lt_of_heap f6; simp only [List.getElem?_toArray, List.getElem?_cons_zero, List.getElem?_cons_succ] at q60 q61; have h7 := h6.alloc (.cells #[.int .i64 s, .int .u64 gg] 30))
          | (at_builtin; refine wl_append rfl (.tmp 51) (.tmp 53) 54 rfl 30 i0 (.agg #[.int .i64 0, .int .u64 0]) 2 16 Try.underlying54 hi0 hz0 hz1 hz2 rfl (by decide) _ _ rfl h7 ⟨w4.heap.size, 0, none⟩ 1 [.int .i64 s, .int .u64 gg] rfl rfl (cell_two_new _ _ _ _) (fun x hx => by simp at hx; rcases hx with rfl | rfl <;> rfl) (by unfold maxLen; simp; omega) (by simp; omega) ?_; intro v2 w5 h8; have fr5 := h8.blk (b := r) (List.mem_cons_of_mem _ (List.mem_cons_of_mem _ List.mem_cons_self)); have c05 := cell_of fr5 0; have lt5 := lt_of_heap fr5; simp only [List.getElem?_toArray, List.getElem?_cons_zero, List.getElem?_cons_succ] at c05; obtain ⟨hd1, hd2, hd3⟩ := h8.swap.partD; have pd5 := part_drop (m := k) hd1 (by simpa using hkl) hd2 hd3; rw [List.length_map, ← hAH ()] at pd5; clear hd1 hd2 hd3)
          | (at_builtin; refine wl_part rfl (.tmp 56) (.tmp 62) 54 rfl 30 i0 (.agg #[.int .i64 0, .int .u64 0]) 2 16 Try.underlying54 hi0 hz0 hz1 hz2 rfl (by decide) _ _ rfl h8 _ ((l.map encH).drop k) rfl pd5 hrd.1 hrd.2 (by unfold maxLen; simp; omega) (by simp; omega) ?_; intro v3 w6 h9; obtain ⟨A9, c9, rfl, hr9⟩ := h9.row; clear hr9; rw [insLen l k _ hkl] at h9 ⊢; have fr6 := h9.blk (b := r) (List.mem_cons_of_mem _ (List.mem_cons_of_mem _ List.mem_cons_self)); have c06 := cell_of fr6 0; have ff6 := frozen_of fr6 0; have lt6 := lt_of_heap fr6; simp only [List.getElem?_toArray, List.getElem?_cons_zero, List.getElem?_cons_succ] at c06; have f66 := h9.blk (b := b6) (List.mem_cons_of_mem _ List.mem_cons_self); have q70 := cell_of f66 0; have q71 := cell_of f66 1; have l66 := lt_of_heap f66; simp only [List.getElem?_toArray, List.getElem?_cons_zero, List.getElem?_cons_succ] at q70 q71; have f4 := h9.blk (b := b4) (List.mem_cons_of_mem _ (List.mem_cons_of_mem _ (List.mem_cons_of_mem _ List.mem_cons_self))); have ff40 := frozen_of f4 0; have ff41 := frozen_of f4 1; have l4 := lt_of_heap f4; have q40 := cell_of f4 0; have q41 := cell_of f4 1; simp only [List.getElem?_toArray, List.getElem?_cons_zero, List.getElem?_cons_succ] at q40 q41))
        have m1 : ∀ p ∈ (r, rblk (.slice A l.length c) vA') :: (b4, Obj.cells #[.int .i64 0, .int .u64 0] 30 (0, 0)) :: K, p ∈ (w4.heap.size, Obj.cells #[.int .i64 s, .int .u64 gg] 30 (0, 0)) :: (b6, Obj.cells #[.int .i64 s, .int .u64 gg] 30 (0, 0)) :: (r, rblk (.slice A l.length c) vA') :: (b4, Obj.cells #[.int .i64 0, .int .u64 0] 30 (0, 0)) :: K := fun p hp => List.mem_cons_of_mem _ (List.mem_cons_of_mem _ hp)
        have h10 := (h9.drop _ m1).set (o' := rblk (.slice A9 (l.length + 1) c9) vA') ((Upd.refl [r] w6).setCell ⟨r, 0, none⟩ (.slice A9 (l.length + 1) c9) (.inl (by simp))) (by simpa [rblk] using heap_setCell_same fr6 0 _) (by intro p hp; rcases List.mem_cons.1 hp with rfl | hp; exact n3; exact hKr p hp)
        have h11 := h10.drop ((b4, Obj.cells #[.int .i64 0, .int .u64 0] 30 (0, 0)) :: (r, rblk (.slice A9 (l.length + 1) c9) vA') :: K) (by intro p hp; simp at hp ⊢; rcases hp with h | h | h <;> simp [h])
        have f4b := h11.blk List.mem_cons_self
        have h12 := h11.set (o' := .cells #[.int .i64 s, .int .u64 gg] 30 (0, 0)) (((Upd.refl [b4] _).setCell ⟨b4, 0, none⟩ (.int .i64 s) (.inl (by simp))).setCell ⟨b4, 1, none⟩ (.int .u64 gg) (.inl (by simp))) (by simpa using heap_setCell_same (heap_setCell_same f4b 0 (.int .i64 s)) 1 (.int .u64 gg)) (by intro p hp; rcases List.mem_cons.1 hp with rfl | hp; exact n4; exact hKb0 p hp)
        have f12 := h12.blk List.mem_cons_self
        have g0 := cell_of f12 0
        have g1 := cell_of f12 1
        simp only [List.getElem?_toArray, List.getElem?_cons_zero, List.getElem?_cons_succ] at g0 g1
        refine bodyPost_ret (v := .tuple #[.agg #[.int .i64 s, .int .u64 gg], .int .i64 0]) (by simp [results, Try.results43, go_sem, g0, g1]) rfl ⟨.slice A9 (l.length + 1) c9, vA', k, hins, by rw [hgH ()], ?_⟩
        have e1 : (l.take k ++ (s, genOf la s) :: l.drop k).map encH = List.take k (l.map encH) ++ [[.int .i64 s, .int .u64 gg]] ++ List.drop k (l.map encH) := by rw [hgH ()]; simp [encH, List.map_take, List.map_drop]
        have e2 : List.take k (l.map encH) ++ encH (s, genOf la s) :: List.drop k (l.map encH) = List.take k (l.map encH) ++ [[.int .i64 s, .int .u64 gg]] ++ List.drop k (l.map encH) := by rw [hgH ()]; simp [encH]
        first | rw [e1, hlH ()] | rw [e2, hlH ()]
        exact (h12.drop ((r, rblk (.slice A9 (l.length + 1) c9) vA') :: K) (fun p hp => List.mem_cons_of_mem _ hp)).imp fun _ g => star_imp g fun _ g => star_tail g
      · obtain ⟨b, off, rfl, k0, k1⟩ := rowcell (k := 0) (c := 0) hr4 hq
        have z2 : decide (q.1 < s) = false := decide_eq_false hqs
        go_wp2_with (first
          | (at_builtin; refine wl_part rfl (.tmp 43) (.tmp 49) 54 rfl 30 i0 (.agg #[.int .i64 0, .int .u64 0]) 2 16 Try.underlying54 hi0 hz0 hz1 hz2 rfl (by decide) (.slice none 0 0) [] rfl H5 (.slice (some ⟨b, off, none⟩) k c) ((l.map encH).take k) rfl pt hrt.1 hrt.2 (by unfold maxLen; simp; omega) (by simp; omega) ?_; intro v1 w4 h6; rw [List.nil_append] at h6; have f6 := h6.blk (b := b6) List.mem_cons_self; have q60 := cell_of f6 0; have q61 := cell_of f6 1; have l6 := lt_of_heap f6; simp only [List.getElem?_toArray, List.getElem?_cons_zero, List.getElem?_cons_succ] at q60 q61; have h7 := h6.alloc (.cells #[.int .i64 s, .int .u64 gg] 30))
          | (at_builtin; refine wl_append rfl (.tmp 51) (.tmp 53) 54 rfl 30 i0 (.agg #[.int .i64 0, .int .u64 0]) 2 16 Try.underlying54 hi0 hz0 hz1 hz2 rfl (by decide) _ _ rfl h7 ⟨w4.heap.size, 0, none⟩ 1 [.int .i64 s, .int .u64 gg] rfl rfl (cell_two_new _ _ _ _) (fun x hx => by simp at hx; rcases hx with rfl | rfl <;> rfl) (by unfold maxLen; simp; omega) (by simp; omega) ?_; intro v2 w5 h8; have fr5 := h8.blk (b := r) (List.mem_cons_of_mem _ (List.mem_cons_of_mem _ List.mem_cons_self)); have c05 := cell_of fr5 0; have lt5 := lt_of_heap fr5; simp only [List.getElem?_toArray, List.getElem?_cons_zero, List.getElem?_cons_succ] at c05; obtain ⟨hd1, hd2, hd3⟩ := h8.swap.partD; have pd5 := part_drop (m := k) hd1 (by simpa using hkl) hd2 hd3; rw [List.length_map, ← hAH ()] at pd5; clear hd1 hd2 hd3)
          | (at_builtin; refine wl_part rfl (.tmp 56) (.tmp 62) 54 rfl 30 i0 (.agg #[.int .i64 0, .int .u64 0]) 2 16 Try.underlying54 hi0 hz0 hz1 hz2 rfl (by decide) _ _ rfl h8 _ ((l.map encH).drop k) rfl pd5 hrd.1 hrd.2 (by unfold maxLen; simp; omega) (by simp; omega) ?_; intro v3 w6 h9; obtain ⟨A9, c9, rfl, hr9⟩ := h9.row; clear hr9; rw [insLen l k _ hkl] at h9 ⊢; have fr6 := h9.blk (b := r) (List.mem_cons_of_mem _ (List.mem_cons_of_mem _ List.mem_cons_self)); have c06 := cell_of fr6 0; have ff6 := frozen_of fr6 0; have lt6 := lt_of_heap fr6; simp only [List.getElem?_toArray, List.getElem?_cons_zero, List.getElem?_cons_succ] at c06; have f66 := h9.blk (b := b6) (List.mem_cons_of_mem _ List.mem_cons_self); have q70 := cell_of f66 0; have q71 := cell_of f66 1; have l66 := lt_of_heap f66; simp only [List.getElem?_toArray, List.getElem?_cons_zero, List.getElem?_cons_succ] at q70 q71; have f4 := h9.blk (b := b4) (List.mem_cons_of_mem _ (List.mem_cons_of_mem _ (List.mem_cons_of_mem _ List.mem_cons_self))); have ff40 := frozen_of f4 0; have ff41 := frozen_of f4 1; have l4 := lt_of_heap f4; have q40 := cell_of f4 0; have q41 := cell_of f4 1; simp only [List.getElem?_toArray, List.getElem?_cons_zero, List.getElem?_cons_succ] at q40 q41))
        have m1 : ∀ p ∈ (r, rblk (.slice (some ⟨b, off, none⟩) l.length c) vA') :: (b4, Obj.cells #[.int .i64 0, .int .u64 0] 30 (0, 0)) :: K, p ∈ (w4.heap.size, Obj.cells #[.int .i64 s, .int .u64 gg] 30 (0, 0)) :: (b6, Obj.cells #[.int .i64 s, .int .u64 gg] 30 (0, 0)) :: (r, rblk (.slice (some ⟨b, off, none⟩) l.length c) vA') :: (b4, Obj.cells #[.int .i64 0, .int .u64 0] 30 (0, 0)) :: K := fun p hp => List.mem_cons_of_mem _ (List.mem_cons_of_mem _ hp)
        have h10 := (h9.drop _ m1).set (o' := rblk (.slice A9 (l.length + 1) c9) vA') ((Upd.refl [r] w6).setCell ⟨r, 0, none⟩ (.slice A9 (l.length + 1) c9) (.inl (by simp))) (by simpa [rblk] using heap_setCell_same fr6 0 _) (by intro p hp; rcases List.mem_cons.1 hp with rfl | hp; exact n3; exact hKr p hp)
        have h11 := h10.drop ((b4, Obj.cells #[.int .i64 0, .int .u64 0] 30 (0, 0)) :: (r, rblk (.slice A9 (l.length + 1) c9) vA') :: K) (by intro p hp; simp at hp ⊢; rcases hp with h | h | h <;> simp [h])
        have f4b := h11.blk List.mem_cons_self
        have h12 := h11.set (o' := .cells #[.int .i64 s, .int .u64 gg] 30 (0, 0)) (((Upd.refl [b4] _).setCell ⟨b4, 0, none⟩ (.int .i64 s) (.inl (by simp))).setCell ⟨b4, 1, none⟩ (.int .u64 gg) (.inl (by simp))) (by simpa using heap_setCell_same (heap_setCell_same f4b 0 (.int .i64 s)) 1 (.int .u64 gg)) (by intro p hp; rcases List.mem_cons.1 hp with rfl | hp; exact n4; exact hKb0 p hp)
        have f12 := h12.blk List.mem_cons_self
        have g0 := cell_of f12 0
        have g1 := cell_of f12 1
        simp only [List.getElem?_toArray, List.getElem?_cons_zero, List.getElem?_cons_succ] at g0 g1
        refine bodyPost_ret (v := .tuple #[.agg #[.int .i64 s, .int .u64 gg], .int .i64 0]) (by simp [results, Try.results43, go_sem, g0, g1]) rfl ⟨.slice A9 (l.length + 1) c9, vA', k, hins, by rw [hgH ()], ?_⟩
        have e1 : (l.take k ++ (s, genOf la s) :: l.drop k).map encH = List.take k (l.map encH) ++ [[.int .i64 s, .int .u64 gg]] ++ List.drop k (l.map encH) := by rw [hgH ()]; simp [encH, List.map_take, List.map_drop]
        have e2 : List.take k (l.map encH) ++ encH (s, genOf la s) :: List.drop k (l.map encH) = List.take k (l.map encH) ++ [[.int .i64 s, .int .u64 gg]] ++ List.drop k (l.map encH) := by rw [hgH ()]; simp [encH]
        first | rw [e1, hlH ()] | rw [e2, hlH ()]
        exact (h12.drop ((r, rblk (.slice A9 (l.length + 1) c9) vA') :: K) (fun p hp => List.mem_cons_of_mem _ hp)).imp fun _ g => star_imp g fun _ g => star_tail g
end
end Go.Proofs.Ytgleceijdedlkaa
