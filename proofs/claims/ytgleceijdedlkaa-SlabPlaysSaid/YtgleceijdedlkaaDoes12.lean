/- SlabPlays: a step, of both. -/
import Derived.Test.YtgleceijdedlkaaPlays12a
import Derived.Test.YtgleceijdedlkaaRef12e
import Derived.Test.YtgleceijdedlkaaSteps12
import Derived.Test.YtgleceijdedlkaaTabRes2
namespace Go.Proofs.Ytgleceijdedlkaa
set_option linter.unusedSectionVars false
set_option linter.unusedVariables false
set_option linter.unusedSimpArgs false
open Go.RowKit
section
variable {w0 w : World} {K : List (Nat × Obj)} {T : Res} [Good T] {x r : Nat} {room used : Int} {vL : Value} {sl l : List (Int × List UInt8)} {n : Nat}
set_option maxRecDepth 100000 in
set_option maxHeartbeats 8000000 in
theorem does12_take_arg (H : SepK w0 w ((r, tblk room vL) :: K) (star (slabR x room used sl) (star (rowR 101 2 vL (l.map encT)) T))) (hKr : ∀ p ∈ K, p.1 ≠ r) (hP : Ps n room used sl l) (hn : n ≤ 1000) (hroom : room ≤ 65536) (s : St12) (hs : okU s) (d1 : s.d = 0) (ho : okc s.n = false) :
    Calls Try.prog 54 #[.pointer (some ⟨x, 0, none⟩), .pointer (some ⟨r, 0, none⟩), .agg (encU s).toArray] w fun e w' => ∃ vL' used' sl' l', e = .returned (.bool true) ∧ SepK w0 w' ((r, tblk room vL') :: K) (star (slabR x room used' sl') (star (rowR 101 2 vL' (l'.map encT)) T)) ∧ Ps (n + 1) room used' sl' l' := by
  obtain ⟨d, slot, pos, m, t⟩ := s
  obtain ⟨-, hslot, hpos, hm, ht⟩ := hs
  simp only at d1 ho hslot hpos hm ht
  have hlen := hP.len
  have hsl := hP.slen
  have hbd : ∀ p ∈ l, p.2.length ≤ 1000 := fun p hp => by have := (hP.bd hp).2; omega
  have hbs : ∀ p ∈ sl, p.2.length ≤ 1000 := fun p hp => hbd p (hP.perm.mem_iff.1 hp)
  have hlo := hP.lo
  have hle := hP.le
  have huse := hP.use
  have hU : Unit → used = usedOf l := fun _ => huse
  have lr := lt_of_heap (H.blk (b := r) List.mem_cons_self)
  subst d1
  unfold encU
  simp only
  have hh := (H.alloc (.cells #[.int .i64 0, .int .i64 slot, .int .i64 pos, .int .i64 m, .string t] 98)).drop ((r, tblk room vL) :: (w.heap.size, .cells #[.int .i64 0, .int .i64 slot, .int .i64 pos, .int .i64 m, .string t] 98 (0, 0)) :: K) (by intro p hp; simp at hp ⊢; rcases hp with h | h | h <;> simp [h])
  have hKb : ∀ p ∈ (w.heap.size, Obj.cells #[.int .i64 0, .int .i64 slot, .int .i64 pos, .int .i64 m, .string t] 98 (0, 0)) :: K, p.1 ≠ r := fun p hp => by
    rcases List.mem_cons.1 hp with rfl | hp
    · exact Nat.ne_of_gt lr
    · exact hKr p hp
  have f1 := hh.blk (b := w.heap.size) (List.mem_cons_of_mem _ List.mem_cons_self); have k0 := cell_of f1 0; have k1 := cell_of f1 1; have k2 := cell_of f1 2; have k3 := cell_of f1 3; have k4 := cell_of f1 4; have l1 := lt_of_heap f1; simp only [List.getElem?_toArray, List.getElem?_cons_zero, List.getElem?_cons_succ] at k0 k1 k2 k3 k4; clear f1
  clear H
  clear huse
  go_enter Try.func54, Try.ntmps54
  go_wp2_with fail
  refine (lTake_arg hh m ho).mono ?_
  rintro e wa ⟨rfl, ha⟩
  replace hh := ha
  clear ha
  clear k0 k1 k2 k3 k4 l1
  have f1 := hh.blk (b := w.heap.size) (List.mem_cons_of_mem _ List.mem_cons_self); have k0 := cell_of f1 0; have k1 := cell_of f1 1; have k2 := cell_of f1 2; have k3 := cell_of f1 3; have k4 := cell_of f1 4; have l1 := lt_of_heap f1; simp only [List.getElem?_toArray, List.getElem?_cons_zero, List.getElem?_cons_succ] at k0 k1 k2 k3 k4; clear f1
  go_wp2_with fail
  refine (uTake_arg m ho _).mono ?_
  rintro e wb ⟨rfl, rfl⟩
  go_wp2_with fail
  go_ret
  exact ⟨vL, used, sl, l, rfl, hh.drop ((r, tblk room vL) :: K) (by intro p hp; simp at hp ⊢; rcases hp with h | h <;> simp [h]), hP.more⟩

set_option maxRecDepth 100000 in
set_option maxHeartbeats 8000000 in
theorem does12_take_full (H : SepK w0 w ((r, tblk room vL) :: K) (star (slabR x room used sl) (star (rowR 101 2 vL (l.map encT)) T))) (hKr : ∀ p ∈ K, p.1 ≠ r) (hP : Ps n room used sl l) (hn : n ≤ 1000) (hroom : room ≤ 65536) (s : St12) (hs : okU s) (d1 : s.d = 0) (ho : okc s.n = true) (hf : room < used + cls s.n) :
    Calls Try.prog 54 #[.pointer (some ⟨x, 0, none⟩), .pointer (some ⟨r, 0, none⟩), .agg (encU s).toArray] w fun e w' => ∃ vL' used' sl' l', e = .returned (.bool true) ∧ SepK w0 w' ((r, tblk room vL') :: K) (star (slabR x room used' sl') (star (rowR 101 2 vL' (l'.map encT)) T)) ∧ Ps (n + 1) room used' sl' l' := by
  obtain ⟨d, slot, pos, m, t⟩ := s
  obtain ⟨-, hslot, hpos, hm, ht⟩ := hs
  simp only at d1 ho hf hslot hpos hm ht
  have hlen := hP.len
  have hsl := hP.slen
  have hbd : ∀ p ∈ l, p.2.length ≤ 1000 := fun p hp => by have := (hP.bd hp).2; omega
  have hbs : ∀ p ∈ sl, p.2.length ≤ 1000 := fun p hp => hbd p (hP.perm.mem_iff.1 hp)
  have hlo := hP.lo
  have hle := hP.le
  have huse := hP.use
  have hU : Unit → used = usedOf l := fun _ => huse
  have lr := lt_of_heap (H.blk (b := r) List.mem_cons_self)
  subst d1
  unfold encU
  simp only
  have hh := (H.alloc (.cells #[.int .i64 0, .int .i64 slot, .int .i64 pos, .int .i64 m, .string t] 98)).drop ((r, tblk room vL) :: (w.heap.size, .cells #[.int .i64 0, .int .i64 slot, .int .i64 pos, .int .i64 m, .string t] 98 (0, 0)) :: K) (by intro p hp; simp at hp ⊢; rcases hp with h | h | h <;> simp [h])
  have hKb : ∀ p ∈ (w.heap.size, Obj.cells #[.int .i64 0, .int .i64 slot, .int .i64 pos, .int .i64 m, .string t] 98 (0, 0)) :: K, p.1 ≠ r := fun p hp => by
    rcases List.mem_cons.1 hp with rfl | hp
    · exact Nat.ne_of_gt lr
    · exact hKr p hp
  have f1 := hh.blk (b := w.heap.size) (List.mem_cons_of_mem _ List.mem_cons_self); have k0 := cell_of f1 0; have k1 := cell_of f1 1; have k2 := cell_of f1 2; have k3 := cell_of f1 3; have k4 := cell_of f1 4; have l1 := lt_of_heap f1; simp only [List.getElem?_toArray, List.getElem?_cons_zero, List.getElem?_cons_succ] at k0 k1 k2 k3 k4; clear f1
  clear H
  clear huse
  go_enter Try.func54, Try.ntmps54
  go_wp2_with fail
  refine (lTake_full hh m ho hf hlo (by omega)).mono ?_
  rintro e wa ⟨rfl, ha⟩
  replace hh := ha
  clear ha
  clear k0 k1 k2 k3 k4 l1
  have f1 := hh.blk (b := w.heap.size) (List.mem_cons_of_mem _ List.mem_cons_self); have k0 := cell_of f1 0; have k1 := cell_of f1 1; have k2 := cell_of f1 2; have k3 := cell_of f1 3; have k4 := cell_of f1 4; have l1 := lt_of_heap f1; simp only [List.getElem?_toArray, List.getElem?_cons_zero, List.getElem?_cons_succ] at k0 k1 k2 k3 k4; clear f1
  go_wp2_with fail
  refine (uTake_full hh.swap List.mem_cons_self m ho (by rw [← hU ()]; exact hf) (by omega) hbd).mono ?_
  rintro e wb ⟨rfl, hb⟩
  replace hh := hb.swap
  clear hb
  clear k0 k1 k2 k3 k4 l1
  go_wp2_with fail
  go_ret
  exact ⟨vL, used, sl, l, rfl, hh.drop ((r, tblk room vL) :: K) (by intro p hp; simp at hp ⊢; rcases hp with h | h <;> simp [h]), hP.more⟩

set_option maxRecDepth 100000 in
set_option maxHeartbeats 8000000 in
theorem does12_take_ok (H : SepK w0 w ((r, tblk room vL) :: K) (star (slabR x room used sl) (star (rowR 101 2 vL (l.map encT)) T))) (hKr : ∀ p ∈ K, p.1 ≠ r) (hP : Ps n room used sl l) (hn : n ≤ 1000) (hroom : room ≤ 65536) (s : St12) (hs : okU s) (d1 : s.d = 0) (ho : okc s.n = true) (hf : used + cls s.n ≤ room) :
    Calls Try.prog 54 #[.pointer (some ⟨x, 0, none⟩), .pointer (some ⟨r, 0, none⟩), .agg (encU s).toArray] w fun e w' => ∃ vL' used' sl' l', e = .returned (.bool true) ∧ SepK w0 w' ((r, tblk room vL') :: K) (star (slabR x room used' sl') (star (rowR 101 2 vL' (l'.map encT)) T)) ∧ Ps (n + 1) room used' sl' l' := by
  obtain ⟨d, slot, pos, m, t⟩ := s
  obtain ⟨-, hslot, hpos, hm, ht⟩ := hs
  simp only at d1 ho hf hslot hpos hm ht
  have hlen := hP.len
  have hsl := hP.slen
  have hbd : ∀ p ∈ l, p.2.length ≤ 1000 := fun p hp => by have := (hP.bd hp).2; omega
  have hbs : ∀ p ∈ sl, p.2.length ≤ 1000 := fun p hp => hbd p (hP.perm.mem_iff.1 hp)
  have hlo := hP.lo
  have hle := hP.le
  have huse := hP.use
  have hU : Unit → used = usedOf l := fun _ => huse
  have lr := lt_of_heap (H.blk (b := r) List.mem_cons_self)
  subst d1
  unfold encU
  simp only
  have hh := (H.alloc (.cells #[.int .i64 0, .int .i64 slot, .int .i64 pos, .int .i64 m, .string t] 98)).drop ((r, tblk room vL) :: (w.heap.size, .cells #[.int .i64 0, .int .i64 slot, .int .i64 pos, .int .i64 m, .string t] 98 (0, 0)) :: K) (by intro p hp; simp at hp ⊢; rcases hp with h | h | h <;> simp [h])
  have hKb : ∀ p ∈ (w.heap.size, Obj.cells #[.int .i64 0, .int .i64 slot, .int .i64 pos, .int .i64 m, .string t] 98 (0, 0)) :: K, p.1 ≠ r := fun p hp => by
    rcases List.mem_cons.1 hp with rfl | hp
    · exact Nat.ne_of_gt lr
    · exact hKr p hp
  have f1 := hh.blk (b := w.heap.size) (List.mem_cons_of_mem _ List.mem_cons_self); have k0 := cell_of f1 0; have k1 := cell_of f1 1; have k2 := cell_of f1 2; have k3 := cell_of f1 3; have k4 := cell_of f1 4; have l1 := lt_of_heap f1; simp only [List.getElem?_toArray, List.getElem?_cons_zero, List.getElem?_cons_succ] at k0 k1 k2 k3 k4; clear f1
  clear H
  clear huse
  go_enter Try.func54, Try.ntmps54
  go_wp2_with fail
  refine (lTake_ok hh m ho hf hlo hroom (by omega)).mono ?_
  rintro e wa ⟨k, ⟨rfl, p1, p2⟩, ha⟩
  replace hh := ha
  clear ha
  clear k0 k1 k2 k3 k4 l1
  have f1 := hh.blk (b := w.heap.size) (List.mem_cons_of_mem _ List.mem_cons_self); have k0 := cell_of f1 0; have k1 := cell_of f1 1; have k2 := cell_of f1 2; have k3 := cell_of f1 3; have k4 := cell_of f1 4; have l1 := lt_of_heap f1; simp only [List.getElem?_toArray, List.getElem?_cons_zero, List.getElem?_cons_succ] at k0 k1 k2 k3 k4; clear f1
  go_wp2_with fail
  refine (uTake_ok hh.swap hKb m ho (by rw [← hU ()]; exact hf) (by omega) hbd).mono ?_
  rintro e wb ⟨vL', k', hins, rfl, hb⟩
  obtain rfl := hP.same hins p1 p2
  replace hh := hb.swap
  clear hb p1 p2
  clear k0 k1 k2 k3 k4 l1
  go_wp2_with fail
  go_ret
  obtain ⟨-, -, m1, m2, -⟩ := cls_bd ho
  have em : ((List.replicate m.toNat (0 : UInt8)).length : Int) = m := by simp; omega
  have hp := hP.take hins (List.replicate m.toNat 0) (by rw [em]; exact ho) (by rw [em]; exact hf)
  rw [em] at hp
  exact ⟨vL', _, _, _, rfl, hh.drop ((r, tblk room vL') :: K) (by intro p hp; simp at hp ⊢; rcases hp with h | h <;> simp [h]), hp⟩

set_option maxRecDepth 100000 in
set_option maxHeartbeats 8000000 in
theorem does12_give_no (H : SepK w0 w ((r, tblk room vL) :: K) (star (slabR x room used sl) (star (rowR 101 2 vL (l.map encT)) T))) (hKr : ∀ p ∈ K, p.1 ≠ r) (hP : Ps n room used sl l) (hn : n ≤ 1000) (hroom : room ≤ 65536) (s : St12) (hs : okU s) (d1 : s.d = 1) (hg : aget sl s.slot = none) (hat : posT l s.slot = -1) :
    Calls Try.prog 54 #[.pointer (some ⟨x, 0, none⟩), .pointer (some ⟨r, 0, none⟩), .agg (encU s).toArray] w fun e w' => ∃ vL' used' sl' l', e = .returned (.bool true) ∧ SepK w0 w' ((r, tblk room vL') :: K) (star (slabR x room used' sl') (star (rowR 101 2 vL' (l'.map encT)) T)) ∧ Ps (n + 1) room used' sl' l' := by
  obtain ⟨d, slot, pos, m, t⟩ := s
  obtain ⟨-, hslot, hpos, hm, ht⟩ := hs
  simp only at d1 hg hat hslot hpos hm ht
  have hlen := hP.len
  have hsl := hP.slen
  have hbd : ∀ p ∈ l, p.2.length ≤ 1000 := fun p hp => by have := (hP.bd hp).2; omega
  have hbs : ∀ p ∈ sl, p.2.length ≤ 1000 := fun p hp => hbd p (hP.perm.mem_iff.1 hp)
  have hlo := hP.lo
  have hle := hP.le
  have huse := hP.use
  have hU : Unit → used = usedOf l := fun _ => huse
  have lr := lt_of_heap (H.blk (b := r) List.mem_cons_self)
  subst d1
  unfold encU
  simp only
  have hh := (H.alloc (.cells #[.int .i64 1, .int .i64 slot, .int .i64 pos, .int .i64 m, .string t] 98)).drop ((r, tblk room vL) :: (w.heap.size, .cells #[.int .i64 1, .int .i64 slot, .int .i64 pos, .int .i64 m, .string t] 98 (0, 0)) :: K) (by intro p hp; simp at hp ⊢; rcases hp with h | h | h <;> simp [h])
  have hKb : ∀ p ∈ (w.heap.size, Obj.cells #[.int .i64 1, .int .i64 slot, .int .i64 pos, .int .i64 m, .string t] 98 (0, 0)) :: K, p.1 ≠ r := fun p hp => by
    rcases List.mem_cons.1 hp with rfl | hp
    · exact Nat.ne_of_gt lr
    · exact hKr p hp
  have f1 := hh.blk (b := w.heap.size) (List.mem_cons_of_mem _ List.mem_cons_self); have k0 := cell_of f1 0; have k1 := cell_of f1 1; have k2 := cell_of f1 2; have k3 := cell_of f1 3; have k4 := cell_of f1 4; have l1 := lt_of_heap f1; simp only [List.getElem?_toArray, List.getElem?_cons_zero, List.getElem?_cons_succ] at k0 k1 k2 k3 k4; clear f1
  clear H
  clear huse
  go_enter Try.func54, Try.ntmps54
  go_wp2_with fail
  replace hh := hh.upd (Upd.refl [] _).drew
  clear k0 k1 k2 k3 k4 l1
  have f1 := hh.blk (b := w.heap.size) (List.mem_cons_of_mem _ List.mem_cons_self); have k0 := cell_of f1 0; have k1 := cell_of f1 1; have k2 := cell_of f1 2; have k3 := cell_of f1 3; have k4 := cell_of f1 4; have l1 := lt_of_heap f1; simp only [List.getElem?_toArray, List.getElem?_cons_zero, List.getElem?_cons_succ] at k0 k1 k2 k3 k4; clear f1
  go_region_held3 (fun w' => w'.cell? ⟨w.heap.size, 1, none⟩ = some (.int .i64 slot)) (exact k1)
    (first
      | (go_at_call 51; refine (lGive_no hh slot hslot hg).mono ?_; rintro e wa ⟨rfl, rfl⟩)
      | (go_at_call 77; refine (uGive_no hh.swap List.mem_cons_self slot hat (by omega)).mono ?_; rintro e wb ⟨rfl, rfl⟩))
  all_goals
    go_wp2_with fail
    go_ret
    exact ⟨vL, used, sl, l, rfl, hh.drop ((r, tblk room vL) :: K) (by intro p hp; simp at hp ⊢; rcases hp with h | h <;> simp [h]), hP.more⟩

set_option maxRecDepth 100000 in
set_option maxHeartbeats 8000000 in
theorem does12_give_ok (H : SepK w0 w ((r, tblk room vL) :: K) (star (slabR x room used sl) (star (rowR 101 2 vL (l.map encT)) T))) (hKr : ∀ p ∈ K, p.1 ≠ r) (hP : Ps n room used sl l) (hn : n ≤ 1000) (hroom : room ≤ 65536) (s : St12) (hs : okU s) (d1 : s.d = 1) (k : Nat) (q : Int × List UInt8) (hq : l[k]? = some q) (hqs : q.1 = s.slot) (hg : aget sl s.slot = some q.2) (hat : posT l s.slot = (k : Int)) :
    Calls Try.prog 54 #[.pointer (some ⟨x, 0, none⟩), .pointer (some ⟨r, 0, none⟩), .agg (encU s).toArray] w fun e w' => ∃ vL' used' sl' l', e = .returned (.bool true) ∧ SepK w0 w' ((r, tblk room vL') :: K) (star (slabR x room used' sl') (star (rowR 101 2 vL' (l'.map encT)) T)) ∧ Ps (n + 1) room used' sl' l' := by
  obtain ⟨d, slot, pos, m, t⟩ := s
  obtain ⟨-, hslot, hpos, hm, ht⟩ := hs
  simp only at d1 hg hqs hat hslot hpos hm ht
  have hlen := hP.len
  have hsl := hP.slen
  have hbd : ∀ p ∈ l, p.2.length ≤ 1000 := fun p hp => by have := (hP.bd hp).2; omega
  have hbs : ∀ p ∈ sl, p.2.length ≤ 1000 := fun p hp => hbd p (hP.perm.mem_iff.1 hp)
  have hlo := hP.lo
  have hle := hP.le
  have huse := hP.use
  have hU : Unit → used = usedOf l := fun _ => huse
  have lr := lt_of_heap (H.blk (b := r) List.mem_cons_self)
  subst d1
  unfold encU
  simp only
  have hh := (H.alloc (.cells #[.int .i64 1, .int .i64 slot, .int .i64 pos, .int .i64 m, .string t] 98)).drop ((r, tblk room vL) :: (w.heap.size, .cells #[.int .i64 1, .int .i64 slot, .int .i64 pos, .int .i64 m, .string t] 98 (0, 0)) :: K) (by intro p hp; simp at hp ⊢; rcases hp with h | h | h <;> simp [h])
  have hKb : ∀ p ∈ (w.heap.size, Obj.cells #[.int .i64 1, .int .i64 slot, .int .i64 pos, .int .i64 m, .string t] 98 (0, 0)) :: K, p.1 ≠ r := fun p hp => by
    rcases List.mem_cons.1 hp with rfl | hp
    · exact Nat.ne_of_gt lr
    · exact hKr p hp
  have f1 := hh.blk (b := w.heap.size) (List.mem_cons_of_mem _ List.mem_cons_self); have k0 := cell_of f1 0; have k1 := cell_of f1 1; have k2 := cell_of f1 2; have k3 := cell_of f1 3; have k4 := cell_of f1 4; have l1 := lt_of_heap f1; simp only [List.getElem?_toArray, List.getElem?_cons_zero, List.getElem?_cons_succ] at k0 k1 k2 k3 k4; clear f1
  clear H
  have hkl := (List.getElem?_eq_some_iff.1 hq).1
  have hbq := hbd q (List.mem_of_getElem? hq)
  clear huse
  go_enter Try.func54, Try.ntmps54
  go_wp2_with fail
  replace hh := hh.upd (Upd.refl [] _).drew
  clear k0 k1 k2 k3 k4 l1
  have f1 := hh.blk (b := w.heap.size) (List.mem_cons_of_mem _ List.mem_cons_self); have k0 := cell_of f1 0; have k1 := cell_of f1 1; have k2 := cell_of f1 2; have k3 := cell_of f1 3; have k4 := cell_of f1 4; have l1 := lt_of_heap f1; simp only [List.getElem?_toArray, List.getElem?_cons_zero, List.getElem?_cons_succ] at k0 k1 k2 k3 k4; clear f1
  go_region_held3 (fun w' => w'.cell? ⟨w.heap.size, 1, none⟩ = some (.int .i64 slot)) (exact k1)
    (first
      | (go_at_call 51; refine (lGive_ok hh slot hslot q.2 hg hbq hlo (by omega)).mono ?_; rintro e wa ⟨rfl, ha⟩; replace hh := ha; clear k0 k1 k2 k3 k4 l1; have f1 := hh.blk (b := w.heap.size) (List.mem_cons_of_mem _ List.mem_cons_self); have k0 := cell_of f1 0; have k1 := cell_of f1 1; have k2 := cell_of f1 2; have k3 := cell_of f1 3; have k4 := cell_of f1 4; have l1 := lt_of_heap f1; simp only [List.getElem?_toArray, List.getElem?_cons_zero, List.getElem?_cons_succ] at k0 k1 k2 k3 k4; clear f1)
      | (go_at_call 77; refine (uGive_ok hh.swap hKb slot k hkl hat (by omega)).mono ?_; rintro e wb ⟨vL', rfl, hb⟩; replace hh := hb.swap; clear k0 k1 k2 k3 k4 l1; have f1 := hh.blk (b := w.heap.size) (List.mem_cons_of_mem _ List.mem_cons_self); have k0 := cell_of f1 0; have k1 := cell_of f1 1; have k2 := cell_of f1 2; have k3 := cell_of f1 3; have k4 := cell_of f1 4; have l1 := lt_of_heap f1; simp only [List.getElem?_toArray, List.getElem?_cons_zero, List.getElem?_cons_succ] at k0 k1 k2 k3 k4; clear f1))
  all_goals
    go_wp2_with fail
    go_ret
    exact ⟨_, _, _, _, rfl, hh.drop ((r, tblk room _) :: K) (by intro p hp; simp at hp ⊢; rcases hp with h | h <;> simp [h]), by have := (hP.give hq).more; rwa [hqs] at this⟩

set_option maxRecDepth 100000 in
set_option maxHeartbeats 8000000 in
theorem does12_read_none (H : SepK w0 w ((r, tblk room vL) :: K) (star (slabR x room used sl) (star (rowR 101 2 vL (l.map encT)) T))) (hKr : ∀ p ∈ K, p.1 ≠ r) (hP : Ps n room used sl l) (hn : n ≤ 1000) (hroom : room ≤ 65536) (s : St12) (hs : okU s) (d1 : s.d = 2) (hg : aget sl s.slot = none) (hat : posT l s.slot = -1) :
    Calls Try.prog 54 #[.pointer (some ⟨x, 0, none⟩), .pointer (some ⟨r, 0, none⟩), .agg (encU s).toArray] w fun e w' => ∃ vL' used' sl' l', e = .returned (.bool true) ∧ SepK w0 w' ((r, tblk room vL') :: K) (star (slabR x room used' sl') (star (rowR 101 2 vL' (l'.map encT)) T)) ∧ Ps (n + 1) room used' sl' l' := by
  obtain ⟨d, slot, pos, m, t⟩ := s
  obtain ⟨-, hslot, hpos, hm, ht⟩ := hs
  simp only at d1 hg hat hslot hpos hm ht
  have hlen := hP.len
  have hsl := hP.slen
  have hbd : ∀ p ∈ l, p.2.length ≤ 1000 := fun p hp => by have := (hP.bd hp).2; omega
  have hbs : ∀ p ∈ sl, p.2.length ≤ 1000 := fun p hp => hbd p (hP.perm.mem_iff.1 hp)
  have hlo := hP.lo
  have hle := hP.le
  have huse := hP.use
  have hU : Unit → used = usedOf l := fun _ => huse
  have lr := lt_of_heap (H.blk (b := r) List.mem_cons_self)
  subst d1
  unfold encU
  simp only
  have hh := (H.alloc (.cells #[.int .i64 2, .int .i64 slot, .int .i64 pos, .int .i64 m, .string t] 98)).drop ((r, tblk room vL) :: (w.heap.size, .cells #[.int .i64 2, .int .i64 slot, .int .i64 pos, .int .i64 m, .string t] 98 (0, 0)) :: K) (by intro p hp; simp at hp ⊢; rcases hp with h | h | h <;> simp [h])
  have hKb : ∀ p ∈ (w.heap.size, Obj.cells #[.int .i64 2, .int .i64 slot, .int .i64 pos, .int .i64 m, .string t] 98 (0, 0)) :: K, p.1 ≠ r := fun p hp => by
    rcases List.mem_cons.1 hp with rfl | hp
    · exact Nat.ne_of_gt lr
    · exact hKr p hp
  have f1 := hh.blk (b := w.heap.size) (List.mem_cons_of_mem _ List.mem_cons_self); have k0 := cell_of f1 0; have k1 := cell_of f1 1; have k2 := cell_of f1 2; have k3 := cell_of f1 3; have k4 := cell_of f1 4; have l1 := lt_of_heap f1; simp only [List.getElem?_toArray, List.getElem?_cons_zero, List.getElem?_cons_succ] at k0 k1 k2 k3 k4; clear f1
  clear H
  clear huse
  go_enter Try.func54, Try.ntmps54
  go_wp2_with fail
  refine (lRead_no hh slot pos m 5 hslot hpos hm hbs (.inl ⟨hg, rfl⟩)).mono ?_
  rintro e wa ⟨rfl, rfl⟩
  go_wp2_with fail
  refine (uRead_none hh.swap List.mem_cons_self slot pos m hat (by omega)).mono ?_
  rintro e wb ⟨rfl, rfl⟩
  go_wp2_with fail
  go_ret
  exact ⟨vL, used, sl, l, rfl, hh.drop ((r, tblk room vL) :: K) (by intro p hp; simp at hp ⊢; rcases hp with h | h <;> simp [h]), hP.more⟩

set_option maxRecDepth 100000 in
set_option maxHeartbeats 8000000 in
theorem does12_read_bad (H : SepK w0 w ((r, tblk room vL) :: K) (star (slabR x room used sl) (star (rowR 101 2 vL (l.map encT)) T))) (hKr : ∀ p ∈ K, p.1 ≠ r) (hP : Ps n room used sl l) (hn : n ≤ 1000) (hroom : room ≤ 65536) (s : St12) (hs : okU s) (d1 : s.d = 2) (k : Nat) (q : Int × List UInt8) (hq : l[k]? = some q) (hqs : q.1 = s.slot) (hg : aget sl s.slot = some q.2) (hat : posT l s.slot = (k : Int)) (hf : ¬ fits q.2.length s.pos s.n) :
    Calls Try.prog 54 #[.pointer (some ⟨x, 0, none⟩), .pointer (some ⟨r, 0, none⟩), .agg (encU s).toArray] w fun e w' => ∃ vL' used' sl' l', e = .returned (.bool true) ∧ SepK w0 w' ((r, tblk room vL') :: K) (star (slabR x room used' sl') (star (rowR 101 2 vL' (l'.map encT)) T)) ∧ Ps (n + 1) room used' sl' l' := by
  obtain ⟨d, slot, pos, m, t⟩ := s
  obtain ⟨-, hslot, hpos, hm, ht⟩ := hs
  simp only at d1 hg hqs hat hf hslot hpos hm ht
  have hlen := hP.len
  have hsl := hP.slen
  have hbd : ∀ p ∈ l, p.2.length ≤ 1000 := fun p hp => by have := (hP.bd hp).2; omega
  have hbs : ∀ p ∈ sl, p.2.length ≤ 1000 := fun p hp => hbd p (hP.perm.mem_iff.1 hp)
  have hlo := hP.lo
  have hle := hP.le
  have huse := hP.use
  have hU : Unit → used = usedOf l := fun _ => huse
  have lr := lt_of_heap (H.blk (b := r) List.mem_cons_self)
  subst d1
  unfold encU
  simp only
  have hh := (H.alloc (.cells #[.int .i64 2, .int .i64 slot, .int .i64 pos, .int .i64 m, .string t] 98)).drop ((r, tblk room vL) :: (w.heap.size, .cells #[.int .i64 2, .int .i64 slot, .int .i64 pos, .int .i64 m, .string t] 98 (0, 0)) :: K) (by intro p hp; simp at hp ⊢; rcases hp with h | h | h <;> simp [h])
  have hKb : ∀ p ∈ (w.heap.size, Obj.cells #[.int .i64 2, .int .i64 slot, .int .i64 pos, .int .i64 m, .string t] 98 (0, 0)) :: K, p.1 ≠ r := fun p hp => by
    rcases List.mem_cons.1 hp with rfl | hp
    · exact Nat.ne_of_gt lr
    · exact hKr p hp
  have f1 := hh.blk (b := w.heap.size) (List.mem_cons_of_mem _ List.mem_cons_self); have k0 := cell_of f1 0; have k1 := cell_of f1 1; have k2 := cell_of f1 2; have k3 := cell_of f1 3; have k4 := cell_of f1 4; have l1 := lt_of_heap f1; simp only [List.getElem?_toArray, List.getElem?_cons_zero, List.getElem?_cons_succ] at k0 k1 k2 k3 k4; clear f1
  clear H
  have hbq := hbd q (List.mem_of_getElem? hq)
  clear huse
  go_enter Try.func54, Try.ntmps54
  go_wp2_with fail
  refine (lRead_no hh slot pos m 120 hslot hpos hm hbs (.inr ⟨q.2, hg, hf, rfl⟩)).mono ?_
  rintro e wa ⟨rfl, rfl⟩
  go_wp2_with fail
  refine (uRead_bad hh.swap List.mem_cons_self slot pos m k q hq hat hbq hf (by omega)).mono ?_
  rintro e wb ⟨rfl, rfl⟩
  go_wp2_with fail
  go_ret
  exact ⟨vL, used, sl, l, rfl, hh.drop ((r, tblk room vL) :: K) (by intro p hp; simp at hp ⊢; rcases hp with h | h <;> simp [h]), hP.more⟩

set_option maxRecDepth 100000 in
set_option maxHeartbeats 8000000 in
theorem does12_read_ok (H : SepK w0 w ((r, tblk room vL) :: K) (star (slabR x room used sl) (star (rowR 101 2 vL (l.map encT)) T))) (hKr : ∀ p ∈ K, p.1 ≠ r) (hP : Ps n room used sl l) (hn : n ≤ 1000) (hroom : room ≤ 65536) (s : St12) (hs : okU s) (d1 : s.d = 2) (k : Nat) (q : Int × List UInt8) (hq : l[k]? = some q) (hqs : q.1 = s.slot) (hg : aget sl s.slot = some q.2) (hat : posT l s.slot = (k : Int)) (hf : fits q.2.length s.pos s.n) :
    Calls Try.prog 54 #[.pointer (some ⟨x, 0, none⟩), .pointer (some ⟨r, 0, none⟩), .agg (encU s).toArray] w fun e w' => ∃ vL' used' sl' l', e = .returned (.bool true) ∧ SepK w0 w' ((r, tblk room vL') :: K) (star (slabR x room used' sl') (star (rowR 101 2 vL' (l'.map encT)) T)) ∧ Ps (n + 1) room used' sl' l' := by
  obtain ⟨d, slot, pos, m, t⟩ := s
  obtain ⟨-, hslot, hpos, hm, ht⟩ := hs
  simp only at d1 hg hqs hat hf hslot hpos hm ht
  have hlen := hP.len
  have hsl := hP.slen
  have hbd : ∀ p ∈ l, p.2.length ≤ 1000 := fun p hp => by have := (hP.bd hp).2; omega
  have hbs : ∀ p ∈ sl, p.2.length ≤ 1000 := fun p hp => hbd p (hP.perm.mem_iff.1 hp)
  have hlo := hP.lo
  have hle := hP.le
  have huse := hP.use
  have hU : Unit → used = usedOf l := fun _ => huse
  have lr := lt_of_heap (H.blk (b := r) List.mem_cons_self)
  subst d1
  unfold encU
  simp only
  have hh := (H.alloc (.cells #[.int .i64 2, .int .i64 slot, .int .i64 pos, .int .i64 m, .string t] 98)).drop ((r, tblk room vL) :: (w.heap.size, .cells #[.int .i64 2, .int .i64 slot, .int .i64 pos, .int .i64 m, .string t] 98 (0, 0)) :: K) (by intro p hp; simp at hp ⊢; rcases hp with h | h | h <;> simp [h])
  have hKb : ∀ p ∈ (w.heap.size, Obj.cells #[.int .i64 2, .int .i64 slot, .int .i64 pos, .int .i64 m, .string t] 98 (0, 0)) :: K, p.1 ≠ r := fun p hp => by
    rcases List.mem_cons.1 hp with rfl | hp
    · exact Nat.ne_of_gt lr
    · exact hKr p hp
  have f1 := hh.blk (b := w.heap.size) (List.mem_cons_of_mem _ List.mem_cons_self); have k0 := cell_of f1 0; have k1 := cell_of f1 1; have k2 := cell_of f1 2; have k3 := cell_of f1 3; have k4 := cell_of f1 4; have l1 := lt_of_heap f1; simp only [List.getElem?_toArray, List.getElem?_cons_zero, List.getElem?_cons_succ] at k0 k1 k2 k3 k4; clear f1
  clear H
  have hbq := hbd q (List.mem_of_getElem? hq)
  obtain ⟨f1, f2, f3, f4⟩ := hf
  obtain ⟨p', rfl⟩ : ∃ p' : Nat, pos = (p' : Int) := ⟨pos.toNat, by omega⟩
  obtain ⟨m', rfl⟩ : ∃ m' : Nat, m = (m' : Int) := ⟨m.toNat, by omega⟩
  clear huse
  go_enter Try.func54, Try.ntmps54
  go_wp2_with fail
  refine (lRead_ok hh slot p' m' hslot q.2 hg hbq (by omega)).mono ?_
  rintro e wa ⟨rfl, rfl⟩
  go_wp2_with fail
  refine (uRead_ok hh.swap List.mem_cons_self slot p' m' k q hq hat hbq (by omega) (by omega)).mono ?_
  rintro e wb ⟨rfl, rfl⟩
  go_wp2_with fail
  go_ret
  exact ⟨vL, used, sl, l, rfl, hh.drop ((r, tblk room vL) :: K) (by intro p hp; simp at hp ⊢; rcases hp with h | h <;> simp [h]), hP.more⟩

set_option maxRecDepth 100000 in
set_option maxHeartbeats 8000000 in
theorem does12_write_none (H : SepK w0 w ((r, tblk room vL) :: K) (star (slabR x room used sl) (star (rowR 101 2 vL (l.map encT)) T))) (hKr : ∀ p ∈ K, p.1 ≠ r) (hP : Ps n room used sl l) (hn : n ≤ 1000) (hroom : room ≤ 65536) (s : St12) (hs : okU s) (d1 : s.d = 3) (hg : aget sl s.slot = none) (hat : posT l s.slot = -1) :
    Calls Try.prog 54 #[.pointer (some ⟨x, 0, none⟩), .pointer (some ⟨r, 0, none⟩), .agg (encU s).toArray] w fun e w' => ∃ vL' used' sl' l', e = .returned (.bool true) ∧ SepK w0 w' ((r, tblk room vL') :: K) (star (slabR x room used' sl') (star (rowR 101 2 vL' (l'.map encT)) T)) ∧ Ps (n + 1) room used' sl' l' := by
  obtain ⟨d, slot, pos, m, t⟩ := s
  obtain ⟨-, hslot, hpos, hm, ht⟩ := hs
  simp only at d1 hg hat hslot hpos hm ht
  have hlen := hP.len
  have hsl := hP.slen
  have hbd : ∀ p ∈ l, p.2.length ≤ 1000 := fun p hp => by have := (hP.bd hp).2; omega
  have hbs : ∀ p ∈ sl, p.2.length ≤ 1000 := fun p hp => hbd p (hP.perm.mem_iff.1 hp)
  have hlo := hP.lo
  have hle := hP.le
  have huse := hP.use
  have hU : Unit → used = usedOf l := fun _ => huse
  have lr := lt_of_heap (H.blk (b := r) List.mem_cons_self)
  subst d1
  unfold encU
  simp only
  have hh := (H.alloc (.cells #[.int .i64 3, .int .i64 slot, .int .i64 pos, .int .i64 m, .string t] 98)).drop ((r, tblk room vL) :: (w.heap.size, .cells #[.int .i64 3, .int .i64 slot, .int .i64 pos, .int .i64 m, .string t] 98 (0, 0)) :: K) (by intro p hp; simp at hp ⊢; rcases hp with h | h | h <;> simp [h])
  have hKb : ∀ p ∈ (w.heap.size, Obj.cells #[.int .i64 3, .int .i64 slot, .int .i64 pos, .int .i64 m, .string t] 98 (0, 0)) :: K, p.1 ≠ r := fun p hp => by
    rcases List.mem_cons.1 hp with rfl | hp
    · exact Nat.ne_of_gt lr
    · exact hKr p hp
  have f1 := hh.blk (b := w.heap.size) (List.mem_cons_of_mem _ List.mem_cons_self); have k0 := cell_of f1 0; have k1 := cell_of f1 1; have k2 := cell_of f1 2; have k3 := cell_of f1 3; have k4 := cell_of f1 4; have l1 := lt_of_heap f1; simp only [List.getElem?_toArray, List.getElem?_cons_zero, List.getElem?_cons_succ] at k0 k1 k2 k3 k4; clear f1
  clear H
  have ht' : okI (t.size : Int) := WalkArith.wf_i64 (by unfold reach at ht; omega)
  clear huse
  go_enter Try.func54, Try.ntmps54
  go_wp2_with fail
  replace hh := hh.upd (Upd.refl [] _).drew
  clear k0 k1 k2 k3 k4 l1
  have f1 := hh.blk (b := w.heap.size) (List.mem_cons_of_mem _ List.mem_cons_self); have k0 := cell_of f1 0; have k1 := cell_of f1 1; have k2 := cell_of f1 2; have k3 := cell_of f1 3; have k4 := cell_of f1 4; have l1 := lt_of_heap f1; simp only [List.getElem?_toArray, List.getElem?_cons_zero, List.getElem?_cons_succ] at k0 k1 k2 k3 k4; clear f1
  go_region_held3 (fun w' => w'.cell? ⟨w.heap.size, 1, none⟩ = some (.int .i64 slot) ∧ w'.cell? ⟨w.heap.size, 2, none⟩ = some (.int .i64 pos) ∧ w'.cell? ⟨w.heap.size, 4, none⟩ = some (.string t)) (exact ⟨k1, k2, k4⟩)
    (first
      | (go_at_call 24; refine (lWrite_no hh slot pos 5 t hslot hpos ht' hbs (.inl ⟨hg, rfl⟩)).mono ?_; rintro e wa ⟨rfl, rfl⟩)
      | (go_at_call 79; refine (uWrite_none hh.swap List.mem_cons_self slot pos t hat (by omega)).mono ?_; rintro e wb ⟨rfl, rfl⟩))
  all_goals
    go_wp2_with fail
    go_ret
    exact ⟨vL, used, sl, l, rfl, hh.drop ((r, tblk room vL) :: K) (by intro p hp; simp at hp ⊢; rcases hp with h | h <;> simp [h]), hP.more⟩

set_option maxRecDepth 100000 in
set_option maxHeartbeats 8000000 in
theorem does12_write_bad (H : SepK w0 w ((r, tblk room vL) :: K) (star (slabR x room used sl) (star (rowR 101 2 vL (l.map encT)) T))) (hKr : ∀ p ∈ K, p.1 ≠ r) (hP : Ps n room used sl l) (hn : n ≤ 1000) (hroom : room ≤ 65536) (s : St12) (hs : okU s) (d1 : s.d = 3) (k : Nat) (q : Int × List UInt8) (hq : l[k]? = some q) (hqs : q.1 = s.slot) (hg : aget sl s.slot = some q.2) (hat : posT l s.slot = (k : Int)) (hf : ¬ fits q.2.length s.pos s.s.size) :
    Calls Try.prog 54 #[.pointer (some ⟨x, 0, none⟩), .pointer (some ⟨r, 0, none⟩), .agg (encU s).toArray] w fun e w' => ∃ vL' used' sl' l', e = .returned (.bool true) ∧ SepK w0 w' ((r, tblk room vL') :: K) (star (slabR x room used' sl') (star (rowR 101 2 vL' (l'.map encT)) T)) ∧ Ps (n + 1) room used' sl' l' := by
  obtain ⟨d, slot, pos, m, t⟩ := s
  obtain ⟨-, hslot, hpos, hm, ht⟩ := hs
  simp only at d1 hg hqs hat hf hslot hpos hm ht
  have hlen := hP.len
  have hsl := hP.slen
  have hbd : ∀ p ∈ l, p.2.length ≤ 1000 := fun p hp => by have := (hP.bd hp).2; omega
  have hbs : ∀ p ∈ sl, p.2.length ≤ 1000 := fun p hp => hbd p (hP.perm.mem_iff.1 hp)
  have hlo := hP.lo
  have hle := hP.le
  have huse := hP.use
  have hU : Unit → used = usedOf l := fun _ => huse
  have lr := lt_of_heap (H.blk (b := r) List.mem_cons_self)
  subst d1
  unfold encU
  simp only
  have hh := (H.alloc (.cells #[.int .i64 3, .int .i64 slot, .int .i64 pos, .int .i64 m, .string t] 98)).drop ((r, tblk room vL) :: (w.heap.size, .cells #[.int .i64 3, .int .i64 slot, .int .i64 pos, .int .i64 m, .string t] 98 (0, 0)) :: K) (by intro p hp; simp at hp ⊢; rcases hp with h | h | h <;> simp [h])
  have hKb : ∀ p ∈ (w.heap.size, Obj.cells #[.int .i64 3, .int .i64 slot, .int .i64 pos, .int .i64 m, .string t] 98 (0, 0)) :: K, p.1 ≠ r := fun p hp => by
    rcases List.mem_cons.1 hp with rfl | hp
    · exact Nat.ne_of_gt lr
    · exact hKr p hp
  have f1 := hh.blk (b := w.heap.size) (List.mem_cons_of_mem _ List.mem_cons_self); have k0 := cell_of f1 0; have k1 := cell_of f1 1; have k2 := cell_of f1 2; have k3 := cell_of f1 3; have k4 := cell_of f1 4; have l1 := lt_of_heap f1; simp only [List.getElem?_toArray, List.getElem?_cons_zero, List.getElem?_cons_succ] at k0 k1 k2 k3 k4; clear f1
  clear H
  have hbq := hbd q (List.mem_of_getElem? hq)
  have ht' : okI (t.size : Int) := WalkArith.wf_i64 (by unfold reach at ht; omega)
  clear huse
  go_enter Try.func54, Try.ntmps54
  go_wp2_with fail
  replace hh := hh.upd (Upd.refl [] _).drew
  clear k0 k1 k2 k3 k4 l1
  have f1 := hh.blk (b := w.heap.size) (List.mem_cons_of_mem _ List.mem_cons_self); have k0 := cell_of f1 0; have k1 := cell_of f1 1; have k2 := cell_of f1 2; have k3 := cell_of f1 3; have k4 := cell_of f1 4; have l1 := lt_of_heap f1; simp only [List.getElem?_toArray, List.getElem?_cons_zero, List.getElem?_cons_succ] at k0 k1 k2 k3 k4; clear f1
  go_region_held3 (fun w' => w'.cell? ⟨w.heap.size, 1, none⟩ = some (.int .i64 slot) ∧ w'.cell? ⟨w.heap.size, 2, none⟩ = some (.int .i64 pos) ∧ w'.cell? ⟨w.heap.size, 4, none⟩ = some (.string t)) (exact ⟨k1, k2, k4⟩)
    (first
      | (go_at_call 24; refine (lWrite_no hh slot pos 120 t hslot hpos ht' hbs (.inr ⟨q.2, hg, hf, rfl⟩)).mono ?_; rintro e wa ⟨rfl, rfl⟩)
      | (go_at_call 79; refine (uWrite_bad hh.swap List.mem_cons_self slot pos t k q hq hat hbq hf (by omega)).mono ?_; rintro e wb ⟨rfl, hb⟩; replace hh := hb.swap; clear k0 k1 k2 k3 k4 l1; have f1 := hh.blk (b := w.heap.size) (List.mem_cons_of_mem _ List.mem_cons_self); have k0 := cell_of f1 0; have k1 := cell_of f1 1; have k2 := cell_of f1 2; have k3 := cell_of f1 3; have k4 := cell_of f1 4; have l1 := lt_of_heap f1; simp only [List.getElem?_toArray, List.getElem?_cons_zero, List.getElem?_cons_succ] at k0 k1 k2 k3 k4; clear f1))
  all_goals
    go_wp2_with fail
    go_ret
    exact ⟨vL, used, sl, l, rfl, hh.drop ((r, tblk room vL) :: K) (by intro p hp; simp at hp ⊢; rcases hp with h | h <;> simp [h]), hP.more⟩

set_option maxRecDepth 100000 in
set_option maxHeartbeats 8000000 in
theorem does12_write_ok (H : SepK w0 w ((r, tblk room vL) :: K) (star (slabR x room used sl) (star (rowR 101 2 vL (l.map encT)) T))) (hKr : ∀ p ∈ K, p.1 ≠ r) (hP : Ps n room used sl l) (hn : n ≤ 1000) (hroom : room ≤ 65536) (s : St12) (hs : okU s) (d1 : s.d = 3) (k : Nat) (q : Int × List UInt8) (hq : l[k]? = some q) (hqs : q.1 = s.slot) (hg : aget sl s.slot = some q.2) (hat : posT l s.slot = (k : Int)) (hf : fits q.2.length s.pos s.s.size) :
    Calls Try.prog 54 #[.pointer (some ⟨x, 0, none⟩), .pointer (some ⟨r, 0, none⟩), .agg (encU s).toArray] w fun e w' => ∃ vL' used' sl' l', e = .returned (.bool true) ∧ SepK w0 w' ((r, tblk room vL') :: K) (star (slabR x room used' sl') (star (rowR 101 2 vL' (l'.map encT)) T)) ∧ Ps (n + 1) room used' sl' l' := by
  obtain ⟨d, slot, pos, m, t⟩ := s
  obtain ⟨-, hslot, hpos, hm, ht⟩ := hs
  simp only at d1 hg hqs hat hf hslot hpos hm ht
  have hlen := hP.len
  have hsl := hP.slen
  have hbd : ∀ p ∈ l, p.2.length ≤ 1000 := fun p hp => by have := (hP.bd hp).2; omega
  have hbs : ∀ p ∈ sl, p.2.length ≤ 1000 := fun p hp => hbd p (hP.perm.mem_iff.1 hp)
  have hlo := hP.lo
  have hle := hP.le
  have huse := hP.use
  have hU : Unit → used = usedOf l := fun _ => huse
  have lr := lt_of_heap (H.blk (b := r) List.mem_cons_self)
  subst d1
  unfold encU
  simp only
  have hh := (H.alloc (.cells #[.int .i64 3, .int .i64 slot, .int .i64 pos, .int .i64 m, .string t] 98)).drop ((r, tblk room vL) :: (w.heap.size, .cells #[.int .i64 3, .int .i64 slot, .int .i64 pos, .int .i64 m, .string t] 98 (0, 0)) :: K) (by intro p hp; simp at hp ⊢; rcases hp with h | h | h <;> simp [h])
  have hKb : ∀ p ∈ (w.heap.size, Obj.cells #[.int .i64 3, .int .i64 slot, .int .i64 pos, .int .i64 m, .string t] 98 (0, 0)) :: K, p.1 ≠ r := fun p hp => by
    rcases List.mem_cons.1 hp with rfl | hp
    · exact Nat.ne_of_gt lr
    · exact hKr p hp
  have f1 := hh.blk (b := w.heap.size) (List.mem_cons_of_mem _ List.mem_cons_self); have k0 := cell_of f1 0; have k1 := cell_of f1 1; have k2 := cell_of f1 2; have k3 := cell_of f1 3; have k4 := cell_of f1 4; have l1 := lt_of_heap f1; simp only [List.getElem?_toArray, List.getElem?_cons_zero, List.getElem?_cons_succ] at k0 k1 k2 k3 k4; clear f1
  clear H
  have hbq := hbd q (List.mem_of_getElem? hq)
  obtain ⟨f1, f2, f3, f4⟩ := hf
  obtain ⟨p', rfl⟩ : ∃ p' : Nat, pos = (p' : Int) := ⟨pos.toNat, by omega⟩
  clear huse
  go_enter Try.func54, Try.ntmps54
  go_wp2_with fail
  replace hh := hh.upd (Upd.refl [] _).drew
  clear k0 k1 k2 k3 k4 l1
  have f1 := hh.blk (b := w.heap.size) (List.mem_cons_of_mem _ List.mem_cons_self); have k0 := cell_of f1 0; have k1 := cell_of f1 1; have k2 := cell_of f1 2; have k3 := cell_of f1 3; have k4 := cell_of f1 4; have l1 := lt_of_heap f1; simp only [List.getElem?_toArray, List.getElem?_cons_zero, List.getElem?_cons_succ] at k0 k1 k2 k3 k4; clear f1
  go_region_held3 (fun w' => w'.cell? ⟨w.heap.size, 1, none⟩ = some (.int .i64 slot) ∧ w'.cell? ⟨w.heap.size, 2, none⟩ = some (.int .i64 (p' : Int)) ∧ w'.cell? ⟨w.heap.size, 4, none⟩ = some (.string t)) (exact ⟨k1, k2, k4⟩)
    (first
      | (go_at_call 24; refine (lWrite_ok hh slot p' t hslot q.2 hg hbq (by omega)).mono ?_; rintro e wa ⟨rfl, ha⟩; replace hh := ha; clear k0 k1 k2 k3 k4 l1; have f1 := hh.blk (b := w.heap.size) (List.mem_cons_of_mem _ List.mem_cons_self); have k0 := cell_of f1 0; have k1 := cell_of f1 1; have k2 := cell_of f1 2; have k3 := cell_of f1 3; have k4 := cell_of f1 4; have l1 := lt_of_heap f1; simp only [List.getElem?_toArray, List.getElem?_cons_zero, List.getElem?_cons_succ] at k0 k1 k2 k3 k4; clear f1)
      | (go_at_call 79; refine (uWrite_ok hh.swap List.mem_cons_self slot p' t k q hq hat hbq (by omega) (by omega)).mono ?_; rintro e wb ⟨rfl, hb⟩; replace hh := hb.swap; clear k0 k1 k2 k3 k4 l1; have f1 := hh.blk (b := w.heap.size) (List.mem_cons_of_mem _ List.mem_cons_self); have k0 := cell_of f1 0; have k1 := cell_of f1 1; have k2 := cell_of f1 2; have k3 := cell_of f1 3; have k4 := cell_of f1 4; have l1 := lt_of_heap f1; simp only [List.getElem?_toArray, List.getElem?_cons_zero, List.getElem?_cons_succ] at k0 k1 k2 k3 k4; clear f1))
  all_goals
    go_wp2_with fail
    go_ret
    exact ⟨vL, used, _, _, rfl, hh.drop ((r, tblk room vL) :: K) (by intro p hp; simp at hp ⊢; rcases hp with h | h <;> simp [h]), by have := (hP.write hq (over q.2 p' t.data.toList) (over_length _ _ _ (by show p' + t.size ≤ _; omega))).more; rw [hqs] at this ⊢; exact this⟩

set_option maxRecDepth 100000 in
set_option maxHeartbeats 8000000 in
theorem does12_else (H : SepK w0 w ((r, tblk room vL) :: K) (star (slabR x room used sl) (star (rowR 101 2 vL (l.map encT)) T))) (hKr : ∀ p ∈ K, p.1 ≠ r) (hP : Ps n room used sl l) (hn : n ≤ 1000) (hroom : room ≤ 65536) (s : St12) (hs : okU s) (d1 : s.d ≠ 0 ∧ s.d ≠ 1 ∧ s.d ≠ 2 ∧ s.d ≠ 3)  :
    Calls Try.prog 54 #[.pointer (some ⟨x, 0, none⟩), .pointer (some ⟨r, 0, none⟩), .agg (encU s).toArray] w fun e w' => ∃ vL' used' sl' l', e = .returned (.bool true) ∧ SepK w0 w' ((r, tblk room vL') :: K) (star (slabR x room used' sl') (star (rowR 101 2 vL' (l'.map encT)) T)) ∧ Ps (n + 1) room used' sl' l' := by
  obtain ⟨d, slot, pos, m, t⟩ := s
  obtain ⟨-, hslot, hpos, hm, ht⟩ := hs
  simp only at d1 hslot hpos hm ht
  have hlen := hP.len
  have hsl := hP.slen
  have hbd : ∀ p ∈ l, p.2.length ≤ 1000 := fun p hp => by have := (hP.bd hp).2; omega
  have hbs : ∀ p ∈ sl, p.2.length ≤ 1000 := fun p hp => hbd p (hP.perm.mem_iff.1 hp)
  have hlo := hP.lo
  have hle := hP.le
  have huse := hP.use
  have hU : Unit → used = usedOf l := fun _ => huse
  have lr := lt_of_heap (H.blk (b := r) List.mem_cons_self)
  unfold encU
  simp only
  have hh := (H.alloc (.cells #[.int .i64 d, .int .i64 slot, .int .i64 pos, .int .i64 m, .string t] 98)).drop ((r, tblk room vL) :: (w.heap.size, .cells #[.int .i64 d, .int .i64 slot, .int .i64 pos, .int .i64 m, .string t] 98 (0, 0)) :: K) (by intro p hp; simp at hp ⊢; rcases hp with h | h | h <;> simp [h])
  have hKb : ∀ p ∈ (w.heap.size, Obj.cells #[.int .i64 d, .int .i64 slot, .int .i64 pos, .int .i64 m, .string t] 98 (0, 0)) :: K, p.1 ≠ r := fun p hp => by
    rcases List.mem_cons.1 hp with rfl | hp
    · exact Nat.ne_of_gt lr
    · exact hKr p hp
  have f1 := hh.blk (b := w.heap.size) (List.mem_cons_of_mem _ List.mem_cons_self); have k0 := cell_of f1 0; have k1 := cell_of f1 1; have k2 := cell_of f1 2; have k3 := cell_of f1 3; have k4 := cell_of f1 4; have l1 := lt_of_heap f1; simp only [List.getElem?_toArray, List.getElem?_cons_zero, List.getElem?_cons_succ] at k0 k1 k2 k3 k4; clear f1
  clear H
  obtain ⟨d0, d1', d2, d3⟩ := d1
  have z0 : (d == 0) = false := by simpa using d0
  have z1 : (d == 1) = false := by simpa using d1'
  have z2 : (d == 2) = false := by simpa using d2
  have z3 : (d == 3) = false := by simpa using d3
  clear huse
  go_enter Try.func54, Try.ntmps54
  go_wp2_with fail
  go_ret
  exact ⟨vL, used, sl, l, rfl, hh.drop ((r, tblk room vL) :: K) (by intro p hp; simp at hp ⊢; rcases hp with h | h <;> simp [h]), hP.more⟩

theorem does12 (H : SepK w0 w ((r, tblk room vL) :: K) (star (slabR x room used sl) (star (rowR 101 2 vL (l.map encT)) T))) (hKr : ∀ p ∈ K, p.1 ≠ r) (hP : Ps n room used sl l) (hn : n ≤ 1000) (hroom : room ≤ 65536) (s : St12) (hs : okU s) :
    Calls Try.prog 54 #[.pointer (some ⟨x, 0, none⟩), .pointer (some ⟨r, 0, none⟩), .agg (encU s).toArray] w fun e w' => ∃ vL' used' sl' l', e = .returned (.bool true) ∧ SepK w0 w' ((r, tblk room vL') :: K) (star (slabR x room used' sl') (star (rowR 101 2 vL' (l'.map encT)) T)) ∧ Ps (n + 1) room used' sl' l' := by
  by_cases d0 : s.d = 0
  · cases ho : okc s.n with
    | false => exact does12_take_arg H hKr hP hn hroom s hs d0 ho
    | true =>
      by_cases hf : used + cls s.n ≤ room
      · exact does12_take_ok H hKr hP hn hroom s hs d0 ho hf
      · exact does12_take_full H hKr hP hn hroom s hs d0 ho (by omega)
  rcases hP.at_ s.slot with ⟨hg, hat⟩ | ⟨k, q, hg, hat, hq, hqs⟩
  · by_cases d1 : s.d = 1
    · exact does12_give_no H hKr hP hn hroom s hs d1 hg hat
    by_cases d2 : s.d = 2
    · exact does12_read_none H hKr hP hn hroom s hs d2 hg hat
    by_cases d3 : s.d = 3
    · exact does12_write_none H hKr hP hn hroom s hs d3 hg hat
    exact does12_else H hKr hP hn hroom s hs ⟨d0, d1, d2, d3⟩
  · by_cases d1 : s.d = 1
    · exact does12_give_ok H hKr hP hn hroom s hs d1 k q hq hqs hg hat
    by_cases d2 : s.d = 2
    · by_cases hf : fits q.2.length s.pos s.n
      · exact does12_read_ok H hKr hP hn hroom s hs d2 k q hq hqs hg hat hf
      · exact does12_read_bad H hKr hP hn hroom s hs d2 k q hq hqs hg hat hf
    by_cases d3 : s.d = 3
    · by_cases hf : fits q.2.length s.pos s.s.size
      · exact does12_write_ok H hKr hP hn hroom s hs d3 k q hq hqs hg hat hf
      · exact does12_write_bad H hKr hP hn hroom s hs d3 k q hq hqs hg hat hf
    exact does12_else H hKr hP hn hroom s hs ⟨d0, d1, d2, d3⟩
end
end Go.Proofs.Ytgleceijdedlkaa
