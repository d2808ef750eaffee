/- The document's answer for the heap: Hold, Drop. -/
import Derived.Test.YtgleceijdedlkaaRef14
namespace Go.Proofs.Ytgleceijdedlkaa
set_option linter.unusedSectionVars false
set_option linter.unusedVariables false
set_option linter.unusedSimpArgs false
open Go.RowKit
theorem flatten_set4 (x y z u : Value) : ∀ {l : List (List Value)}, (∀ r ∈ l, r.length = 4) → ∀ {i : Nat}, i < l.length → (l.set i [x, y, z, u]).flatten = (((l.flatten.set (i * 4) x).set (i * 4 + 1) y).set (i * 4 + 2) z).set (i * 4 + 3) u
  | [], _, i, h => by simp at h
  | r :: l, h, 0, _ => by
    have hr : r.length = 4 := h r (by simp)
    obtain ⟨a, b, c, d, rfl⟩ : ∃ a b c d, r = [a, b, c, d] := by
      match r, hr with
      | [a, b, c, d], _ => exact ⟨a, b, c, d, rfl⟩
    simp
  | r :: l, h, i + 1, hi => by
    have hr : r.length = 4 := h r (by simp)
    obtain ⟨a, b, c, d, rfl⟩ : ∃ a b c d, r = [a, b, c, d] := by
      match r, hr with
      | [a, b, c, d], _ => exact ⟨a, b, c, d, rfl⟩
    have := flatten_set4 x y z u (l := l) (fun r hr => h r (by simp [hr])) (i := i) (by simpa using hi)
    have e : (i + 1) * 4 = i * 4 + 1 + 1 + 1 + 1 := by omega
    rw [e]
    simp only [List.set_cons_succ, List.flatten_cons, this, List.cons_append, List.nil_append]
def set4 (w : World) (b o : Nat) (x y z u : Value) : World := (((w.setCell ⟨b, o, none⟩ x).setCell ⟨b, o + 1, none⟩ y).setCell ⟨b, o + 2, none⟩ z).setCell ⟨b, o + 3, none⟩ u
theorem rowR_set4 {e : TypeId} {w : World} {N : Nat → Prop} {b off n c : Nat} {l : List (List Value)} (h : rowR e 4 (.slice (some ⟨b, off, none⟩) n c) l w N) {i : Nat} (hi : i < l.length) (x y z u : Value) :
    off = 0 ∧ N b ∧ (∀ o, w.frozen? ⟨b, o, none⟩ = false) ∧ rowR e 4 (.slice (some ⟨b, off, none⟩) n c) (l.set i [x, y, z, u]) (set4 w b (off + i * 4) x y z u) N := by
  obtain ⟨h1, h2, h3⟩ := h
  have hN := h3 b rfl
  rcases h1.2 with ⟨e0, _⟩ | ⟨g, cap, cur, e0, _, hg, hc, hm, hcs, ht⟩
  · cases e0
  · cases e0
    refine ⟨rfl, hN, fun o => frozen_of hg o, ⟨⟨?_, .inr ⟨b, c, (((cur.setIfInBounds (0 + i * 4) x).setIfInBounds (0 + i * 4 + 1) y).setIfInBounds (0 + i * 4 + 2) z).setIfInBounds (0 + i * 4 + 3) u, by simp, Nat.zero_le _, ?_, by simpa using hc, hm, ?_, ?_⟩⟩, fun r hr => ?_, h3⟩⟩
    · rw [flatten_len (k := 4)]
      intro r hr
      rcases List.mem_or_eq_of_mem_set hr with hr | rfl
      · exact h2 r hr
      · rfl
    · exact heap_setCell_same (heap_setCell_same (heap_setCell_same (heap_setCell_same hg (0 + i * 4) x) (0 + i * 4 + 1) y) (0 + i * 4 + 2) z) (0 + i * 4 + 3) u
    · simp [hcs]
    · rw [flatten_set4 x y z u h2 hi, ← ht]
      simp [List.take_set]
    · rcases List.mem_or_eq_of_mem_set hr with hr | rfl
      · exact h2 r hr
      · rfl
theorem SepK.set4 {w0 w : World} {K : List (Nat × Obj)} {T : Res} [Good T] {e : TypeId} {b off n c : Nat} {l : List (List Value)} (H : SepK w0 w K (star (rowR e 4 (.slice (some ⟨b, off, none⟩) n c) l) T)) {i : Nat} (hi : i < l.length) (x y z u : Value) :
    SepK w0 (Ytgleceijdedlkaa.set4 w b (off + i * 4) x y z u) K (star (rowR e 4 (.slice (some ⟨b, off, none⟩) n c) (l.set i [x, y, z, u])) T) :=
  H.step fun N hR hN => by
    obtain ⟨-, hb, -, hs⟩ := rowR_set4 hR hi x y z u
    exact ⟨hs, .of1 (((((Upd.refl [b] w).setCell _ _ (.inl (by simp))).setCell _ _ (.inl (by simp))).setCell _ _ (.inl (by simp))).setCell _ _ (.inl (by simp))) hb⟩
theorem SepK.free4 {w0 w : World} {K : List (Nat × Obj)} {T : Res} [Good T] {e : TypeId} {b off n c : Nat} {l : List (List Value)} (H : SepK w0 w K (star (rowR e 4 (.slice (some ⟨b, off, none⟩) n c) l) T)) {i : Nat} (hi : i < l.length) : off = 0 ∧ (∀ o, w.frozen? ⟨b, o, none⟩ = false) ∧ b < w.heap.size := by
  obtain ⟨N, hN⟩ := H.get
  obtain ⟨h1, h2, h3, h4⟩ := rowR_set4 hN hi (.int .i64 0) (.int .i64 0) (.int .i64 0) (.int .i64 0)
  exact ⟨h1, h3, ownsRow_lt hN.1 rfl⟩
section
variable {w0 w : World} {K : List (Nat × Obj)} {T : Res} [Good T] {g s t : Nat} {vO : Value} {os : List Ob}
set_option maxRecDepth 100000 in
set_option maxHeartbeats 4000000 in
theorem gHold_no (H : SepK w0 w K (star (rowR 106 4 vO (os.map encO)) T)) (hK : (g, gblk s t vO) ∈ K) (q : Int × Int) (hat : posO os q = -1) (hl : os.length ≤ 10000) :
    Calls Try.prog 67 #[.pointer (some ⟨g, 0, none⟩), .agg #[.int .i64 q.1, .int .u64 q.2]] w fun e w' => e = .returned (.tuple #[.int .i64 0, .int .i64 130]) ∧ SepK w0 w' K (star (rowR 106 4 vO (os.map encO)) T) := by
  have H1 := H.alloc (.cells #[.int .i64 q.1, .int .u64 q.2] 30)
  go_enter Try.func67, Try.ntmps67
  go_wp2_with fail
  refine (gAt H1 (List.mem_cons_of_mem _ hK) q (by omega)).mono ?_
  rw [hat]
  rintro e w1 ⟨rfl, u1⟩
  go_wp2_with fail
  refine bodyPost_ret (v := .tuple #[.int .i64 0, .int .i64 130]) (by simp [results, Try.results67, go_sem]) rfl ⟨rfl, (H1.upd u1).drop K (fun p hp => List.mem_cons_of_mem _ hp)⟩
set_option maxRecDepth 100000 in
set_option maxHeartbeats 4000000 in
theorem gDrop_no (H : SepK w0 w K (star (rowR 106 4 vO (os.map encO)) T)) (hK : (g, gblk s t vO) ∈ K) (q : Int × Int) (hat : posO os q = -1) (hl : os.length ≤ 10000) :
    Calls Try.prog 68 #[.pointer (some ⟨g, 0, none⟩), .agg #[.int .i64 q.1, .int .u64 q.2]] w fun e w' => e = .returned (.tuple #[.int .i64 0, .int .i64 130]) ∧ SepK w0 w' K (star (rowR 106 4 vO (os.map encO)) T) := by
  have H1 := H.alloc (.cells #[.int .i64 q.1, .int .u64 q.2] 30)
  go_enter Try.func68, Try.ntmps68
  go_wp2_with fail
  refine (gAt H1 (List.mem_cons_of_mem _ hK) q (by omega)).mono ?_
  rw [hat]
  rintro e w1 ⟨rfl, u1⟩
  go_wp2_with fail
  refine bodyPost_ret (v := .tuple #[.int .i64 0, .int .i64 130]) (by simp [results, Try.results68, go_sem]) rfl ⟨rfl, (H1.upd u1).drop K (fun p hp => List.mem_cons_of_mem _ hp)⟩
set_option maxRecDepth 100000 in
set_option maxHeartbeats 4000000 in
theorem gHold_ok (H : SepK w0 w K (star (rowR 106 4 vO (os.map encO)) T)) (hK : (g, gblk s t vO) ∈ K) (q : Int × Int) (i : Nat) (c k : Int) (hi : os[i]? = some (q, (c, k))) (hat : posO os q = (i : Int)) (hc : -1000000 ≤ c ∧ c ≤ 1000000) (hl : os.length ≤ 10000) :
    Calls Try.prog 67 #[.pointer (some ⟨g, 0, none⟩), .agg #[.int .i64 q.1, .int .u64 q.2]] w fun e w' => e = .returned (.tuple #[.int .i64 (c + 1), .int .i64 0]) ∧ SepK w0 w' K (star (rowR 106 4 vO ((os.set i (q, (c + 1, k))).map encO)) T) := by
  have H1 := H.alloc (.cells #[.int .i64 q.1, .int .u64 q.2] 30)
  go_enter Try.func67, Try.ntmps67
  go_wp2_with fail
  refine (gAt H1 (List.mem_cons_of_mem _ hK) q (by omega)).mono ?_
  rw [hat]
  rintro e w1 ⟨rfl, u1⟩
  have H2 := (H1.upd u1).drop K (fun p hp => List.mem_cons_of_mem _ hp)
  clear H1 u1 hat H
  have hil := (List.getElem?_eq_some_iff.1 hi).1
  obtain ⟨A, cc, rfl, hr, -⟩ := H2.parts
  rw [List.length_map] at hK H2
  obtain ⟨b, off, rfl, k0, k1, k2, k3⟩ := rowcellO hr hi
  obtain ⟨rfl, ff, lb⟩ := H2.free4 (i := i) (by simpa using hil)
  simp only [Nat.zero_add] at k0 k1 k2 k3
  have f0 := ff (i * 4)
  have f1 := ff (i * 4 + 1)
  have f2 := ff (i * 4 + 2)
  have f3 := ff (i * 4 + 3)
  have fr := H2.blk hK
  have c2 := cell_of fr 2
  have lt := lt_of_heap fr
  simp only [List.getElem?_toArray, List.getElem?_cons_zero, List.getElem?_cons_succ] at c2
  clear ff hr fr
  have e1 : (0 : Int) ≤ (i : Int) := by omega
  have e2 : (i : Int) < (os.length : Int) := by omega
  have hw : IntKind.i64.wrap (c + 1) = c + 1 := IntWalk.i64_in _ (by omega)
  have h3 := ((H2.set4 (i := i) (by simpa using hil) (.int .i64 q.1) (.int .u64 q.2) (.int .i64 k) (.int .i64 (c + 1))).alloc (.cells #[.int .i64 q.1, .int .u64 q.2, .int .i64 k, .int .i64 (c + 1)] 106)).upd (Upd.refl [] _).drew
  have hfin : Unit → (os.map encO).set i [.int .i64 q.1, .int .u64 q.2, .int .i64 k, .int .i64 (c + 1)] = (os.set i (q, (c + 1, k))).map encO := fun _ => by
    rw [List.map_set]
    rfl
  go_wp2_with fail
  refine still_tail 7 (by kernel_rfl) (by kernel_rfl) ?_
  simp only [List.take_succ_cons, List.take_zero, List.drop_succ_cons, List.drop_zero]
  repeat still_step
  refine wpStill_nil ?_
  go_wp2_with fail
  simp only [Nat.zero_add] at h3
  refine bodyPost_ret (v := .tuple #[.int .i64 (c + 1), .int .i64 0]) (by simp [results, Try.results67, go_sem]) rfl ⟨rfl, ?_⟩
  rw [← hfin (), List.length_map]
  exact h3.drop K (fun p hp => List.mem_cons_of_mem _ hp)
set_option maxRecDepth 100000 in
set_option maxHeartbeats 4000000 in
theorem gDrop_ok (H : SepK w0 w K (star (rowR 106 4 vO (os.map encO)) T)) (hK : (g, gblk s t vO) ∈ K) (q : Int × Int) (i : Nat) (c k : Int) (hi : os[i]? = some (q, (c, k))) (hat : posO os q = (i : Int)) (hc : -1000000 ≤ c ∧ c ≤ 1000000) (c0 : c ≠ 0) (hl : os.length ≤ 10000) :
    Calls Try.prog 68 #[.pointer (some ⟨g, 0, none⟩), .agg #[.int .i64 q.1, .int .u64 q.2]] w fun e w' => e = .returned (.tuple #[.int .i64 (c - 1), .int .i64 0]) ∧ SepK w0 w' K (star (rowR 106 4 vO ((os.set i (q, (c - 1, k))).map encO)) T) := by
  have H1 := H.alloc (.cells #[.int .i64 q.1, .int .u64 q.2] 30)
  go_enter Try.func68, Try.ntmps68
  go_wp2_with fail
  refine (gAt H1 (List.mem_cons_of_mem _ hK) q (by omega)).mono ?_
  rw [hat]
  rintro e w1 ⟨rfl, u1⟩
  have H2 := (H1.upd u1).drop K (fun p hp => List.mem_cons_of_mem _ hp)
  clear H1 u1 hat H
  have hil := (List.getElem?_eq_some_iff.1 hi).1
  obtain ⟨A, cc, rfl, hr, -⟩ := H2.parts
  rw [List.length_map] at hK H2
  obtain ⟨b, off, rfl, k0, k1, k2, k3⟩ := rowcellO hr hi
  obtain ⟨rfl, ff, lb⟩ := H2.free4 (i := i) (by simpa using hil)
  simp only [Nat.zero_add] at k0 k1 k2 k3
  have f0 := ff (i * 4)
  have f1 := ff (i * 4 + 1)
  have f2 := ff (i * 4 + 2)
  have f3 := ff (i * 4 + 3)
  have fr := H2.blk hK
  have c2 := cell_of fr 2
  have lt := lt_of_heap fr
  simp only [List.getElem?_toArray, List.getElem?_cons_zero, List.getElem?_cons_succ] at c2
  clear ff hr fr
  have e1 : (0 : Int) ≤ (i : Int) := by omega
  have e2 : (i : Int) < (os.length : Int) := by omega
  have hw : IntKind.i64.wrap (c - 1) = c - 1 := IntWalk.i64_in _ (by omega)
  have h3 := ((H2.set4 (i := i) (by simpa using hil) (.int .i64 q.1) (.int .u64 q.2) (.int .i64 k) (.int .i64 (c - 1))).alloc (.cells #[.int .i64 q.1, .int .u64 q.2, .int .i64 k, .int .i64 (c - 1)] 106)).upd (Upd.refl [] _).drew
  have hfin : Unit → (os.map encO).set i [.int .i64 q.1, .int .u64 q.2, .int .i64 k, .int .i64 (c - 1)] = (os.set i (q, (c - 1, k))).map encO := fun _ => by
    rw [List.map_set]
    rfl
  have yz : (c == 0) = false := by simpa using c0
  clear c0
  go_wp2_with fail
  refine still_tail 7 (by kernel_rfl) (by kernel_rfl) ?_
  simp only [List.take_succ_cons, List.take_zero, List.drop_succ_cons, List.drop_zero]
  repeat still_step
  refine wpStill_nil ?_
  go_wp2_with fail
  simp only [Nat.zero_add] at h3
  refine bodyPost_ret (v := .tuple #[.int .i64 (c - 1), .int .i64 0]) (by simp [results, Try.results68, go_sem]) rfl ⟨rfl, ?_⟩
  rw [← hfin (), List.length_map]
  exact h3.drop K (fun p hp => List.mem_cons_of_mem _ hp)
set_option maxRecDepth 100000 in
set_option maxHeartbeats 4000000 in
theorem gDrop_zero (H : SepK w0 w K (star (rowR 106 4 vO (os.map encO)) T)) (hK : (g, gblk s t vO) ∈ K) (q : Int × Int) (i : Nat) (k : Int) (hi : os[i]? = some (q, (0, k))) (hat : posO os q = (i : Int)) (hl : os.length ≤ 10000) :
    Calls Try.prog 68 #[.pointer (some ⟨g, 0, none⟩), .agg #[.int .i64 q.1, .int .u64 q.2]] w fun e w' => e = .returned (.tuple #[.int .i64 0, .int .i64 3]) ∧ SepK w0 w' K (star (rowR 106 4 vO (os.map encO)) T) := by
  have H1 := H.alloc (.cells #[.int .i64 q.1, .int .u64 q.2] 30)
  go_enter Try.func68, Try.ntmps68
  go_wp2_with fail
  refine (gAt H1 (List.mem_cons_of_mem _ hK) q (by omega)).mono ?_
  rw [hat]
  rintro e w1 ⟨rfl, u1⟩
  have H2 := (H1.upd u1).drop K (fun p hp => List.mem_cons_of_mem _ hp)
  clear H1 u1 hat H
  have hil := (List.getElem?_eq_some_iff.1 hi).1
  obtain ⟨A, cc, rfl, hr, -⟩ := H2.parts
  rw [List.length_map] at hK H2
  obtain ⟨b, off, rfl, k0, k1, k2, k3⟩ := rowcellO hr hi
  obtain ⟨rfl, ff, lb⟩ := H2.free4 (i := i) (by simpa using hil)
  simp only [Nat.zero_add] at k0 k1 k2 k3
  have f0 := ff (i * 4)
  have f1 := ff (i * 4 + 1)
  have f2 := ff (i * 4 + 2)
  have f3 := ff (i * 4 + 3)
  have fr := H2.blk hK
  have c2 := cell_of fr 2
  have lt := lt_of_heap fr
  simp only [List.getElem?_toArray, List.getElem?_cons_zero, List.getElem?_cons_succ] at c2
  clear ff hr fr
  have e1 : (0 : Int) ≤ (i : Int) := by omega
  have e2 : (i : Int) < (os.length : Int) := by omega
  have h3 := H2
  go_wp2_with fail
  refine bodyPost_ret (v := .tuple #[.int .i64 0, .int .i64 3]) (by simp [results, Try.results68, go_sem]) rfl ⟨rfl, ?_⟩
  rw [List.length_map]
  exact (h3.alloc (.cells #[.int .i64 q.1, .int .u64 q.2, .int .i64 k, .int .i64 0] 106)).drop K (fun p hp => List.mem_cons_of_mem _ hp)
end
end Go.Proofs.Ytgleceijdedlkaa
