/- The document's answer for the heap: Read, Write, New. -/
import Derived.Test.YtgleceijdedlkaaRef14b
namespace Go.Proofs.Ytgleceijdedlkaa
set_option linter.unusedSectionVars false
set_option linter.unusedVariables false
set_option linter.unusedSimpArgs false
open Go.RowKit
section
variable {w0 w : World} {K : List (Nat × Obj)} {T : Res} [Good T] {g s t : Nat} {room : Int} {vO vS : Value} {os : List Ob} {us us' : List (Int × List UInt8)}
set_option maxRecDepth 100000 in
set_option maxHeartbeats 4000000 in
theorem gRead_no (H : SepK w0 w K (star (rowR 106 4 vO (os.map encO)) T)) (hK : (g, gblk s t vO) ∈ K) (q : Int × Int) (at_ n : Int) (hat : posO os q = -1) (hl : os.length ≤ 10000) :
    Calls Try.prog 70 #[.pointer (some ⟨g, 0, none⟩), .agg #[.int .i64 q.1, .int .u64 q.2], .int .i64 at_, .int .i64 n] w fun e w' => e = .returned (.tuple #[.string ByteArray.empty, .int .i64 130]) ∧ SepK w0 w' K (star (rowR 106 4 vO (os.map encO)) T) := by
  have H1 := H.alloc (.cells #[.int .i64 q.1, .int .u64 q.2] 30)
  go_enter Try.func70, Try.ntmps70
  go_wp2_with fail
  refine (gAt H1 (List.mem_cons_of_mem _ hK) q (by omega)).mono ?_
  rw [hat]
  rintro e w1 ⟨rfl, u1⟩
  go_wp2_with fail
  refine bodyPost_ret (v := .tuple #[.string ByteArray.empty, .int .i64 130]) (by simp [results, Try.results70, go_sem]; rfl) rfl ⟨rfl, (H1.upd u1).drop K (fun p hp => List.mem_cons_of_mem _ hp)⟩
set_option maxRecDepth 100000 in
set_option maxHeartbeats 4000000 in
theorem gRead_of (H : SepK w0 w K (star (rowR 106 4 vO (os.map encO)) (star (rowR 101 2 vS (us.map encT)) T))) (hK : (g, gblk s t vO) ∈ K) (q : Int × Int) (at_ n : Int) (i : Nat) (hat : posO os q = (i : Int)) (hl : os.length ≤ 10000) (x : ByteArray) (y : Int)
    (hcall : ∀ (K' : List (Nat × Obj)) (w' : World), (∀ p ∈ K, p ∈ K') → SepK w0 w' K' (star (rowR 101 2 vS (us.map encT)) (star (rowR 106 4 vO (os.map encO)) T)) → Calls Try.prog 78 #[.pointer (some ⟨s, 0, none⟩), .int .i64 q.1, .int .i64 at_, .int .i64 n] w' fun e w2 => e = .returned (.tuple #[.string x, .int .i64 y]) ∧ w' = w2) :
    Calls Try.prog 70 #[.pointer (some ⟨g, 0, none⟩), .agg #[.int .i64 q.1, .int .u64 q.2], .int .i64 at_, .int .i64 n] w fun e w' => e = .returned (.tuple #[.string x, .int .i64 y]) ∧ SepK w0 w' K (star (rowR 106 4 vO (os.map encO)) (star (rowR 101 2 vS (us.map encT)) T)) := by
  have H1 := H.alloc (.cells #[.int .i64 q.1, .int .u64 q.2] 30)
  go_enter Try.func70, Try.ntmps70
  go_wp2_with fail
  refine (gAt H1 (List.mem_cons_of_mem _ hK) q (by omega)).mono ?_
  rw [hat]
  rintro e w1 ⟨rfl, u1⟩
  have H2 := H1.upd u1
  clear H1 u1 hat H
  generalize w.heap.size = b0 at H2 ⊢
  have z1 : decide ((i : Int) < 0) = false := decide_eq_false (by omega)
  have fr := H2.blk (List.mem_cons_of_mem _ hK)
  have c0 := cell_of fr 0
  have lt := lt_of_heap fr
  have fb := H2.blk List.mem_cons_self
  have d0 := cell_of fb 0
  have lb := lt_of_heap fb
  simp only [List.getElem?_toArray, List.getElem?_cons_zero, List.getElem?_cons_succ] at c0 d0
  clear fr fb
  have H3 := H2.upd (Upd.refl [] _).drew
  have hc := hcall _ _ (fun p hp => List.mem_cons_of_mem _ hp) H3.swap
  go_wp2_with fail
  go_region_with (go_at_call 78; refine hc.mono ?_; rintro e w2 ⟨rfl, rfl⟩)
  all_goals
    go_wp2_with fail
    refine bodyPost_ret (v := .tuple #[.string x, .int .i64 y]) (by simp [results, Try.results70, go_sem]) rfl ⟨rfl, H3.drop K (fun p hp => List.mem_cons_of_mem _ hp)⟩
set_option maxRecDepth 100000 in
set_option maxHeartbeats 4000000 in
theorem gWrite_no (H : SepK w0 w K (star (rowR 106 4 vO (os.map encO)) T)) (hK : (g, gblk s t vO) ∈ K) (q : Int × Int) (at_ : Int) (tx : ByteArray) (hat : posO os q = -1) (hl : os.length ≤ 10000) :
    Calls Try.prog 71 #[.pointer (some ⟨g, 0, none⟩), .agg #[.int .i64 q.1, .int .u64 q.2], .int .i64 at_, .string tx] w fun e w' => e = .returned (.int .i64 130) ∧ SepK w0 w' K (star (rowR 106 4 vO (os.map encO)) T) := by
  have H1 := H.alloc (.cells #[.int .i64 q.1, .int .u64 q.2] 30)
  go_enter Try.func71, Try.ntmps71
  go_wp2_with fail
  refine (gAt H1 (List.mem_cons_of_mem _ hK) q (by omega)).mono ?_
  rw [hat]
  rintro e w1 ⟨rfl, u1⟩
  go_wp2_with fail
  go_ret
  exact ⟨rfl, (H1.upd u1).drop K (fun p hp => List.mem_cons_of_mem _ hp)⟩
set_option maxRecDepth 100000 in
set_option maxHeartbeats 4000000 in
theorem gWrite_of (H : SepK w0 w K (star (rowR 106 4 vO (os.map encO)) (star (rowR 101 2 vS (us.map encT)) T))) (hK : (g, gblk s t vO) ∈ K) (q : Int × Int) (at_ : Int) (tx : ByteArray) (i : Nat) (hat : posO os q = (i : Int)) (hl : os.length ≤ 10000) (y : Int)
    (hcall : ∀ (K' : List (Nat × Obj)) (w' : World), (∀ p ∈ K, p ∈ K') → SepK w0 w' K' (star (rowR 101 2 vS (us.map encT)) (star (rowR 106 4 vO (os.map encO)) T)) → Calls Try.prog 79 #[.pointer (some ⟨s, 0, none⟩), .int .i64 q.1, .int .i64 at_, .string tx] w' fun e w2 => e = .returned (.int .i64 y) ∧ SepK w0 w2 K' (star (rowR 101 2 vS (us'.map encT)) (star (rowR 106 4 vO (os.map encO)) T))) :
    Calls Try.prog 71 #[.pointer (some ⟨g, 0, none⟩), .agg #[.int .i64 q.1, .int .u64 q.2], .int .i64 at_, .string tx] w fun e w' => e = .returned (.int .i64 y) ∧ SepK w0 w' K (star (rowR 106 4 vO (os.map encO)) (star (rowR 101 2 vS (us'.map encT)) T)) := by
  have H1 := H.alloc (.cells #[.int .i64 q.1, .int .u64 q.2] 30)
  go_enter Try.func71, Try.ntmps71
  go_wp2_with fail
  refine (gAt H1 (List.mem_cons_of_mem _ hK) q (by omega)).mono ?_
  rw [hat]
  rintro e w1 ⟨rfl, u1⟩
  have H2 := H1.upd u1
  clear H1 u1 hat H
  generalize w.heap.size = b0 at H2 ⊢
  have z1 : decide ((i : Int) < 0) = false := decide_eq_false (by omega)
  have fr := H2.blk (List.mem_cons_of_mem _ hK)
  have c0 := cell_of fr 0
  have lt := lt_of_heap fr
  have fb := H2.blk List.mem_cons_self
  have d0 := cell_of fb 0
  have lb := lt_of_heap fb
  simp only [List.getElem?_toArray, List.getElem?_cons_zero, List.getElem?_cons_succ] at c0 d0
  clear fr fb
  have H3 := H2.upd (Upd.refl [] _).drew
  have hc := hcall _ _ (fun p hp => List.mem_cons_of_mem _ hp) H3.swap
  go_wp2_with fail
  go_region_with (go_at_call 79; refine hc.mono ?_; rintro e w2 ⟨rfl, h2⟩)
  all_goals
    go_wp2_with fail
    go_ret
    exact ⟨rfl, (h2.drop K (fun p hp => List.mem_cons_of_mem _ hp)).swap⟩
set_option maxRecDepth 100000 in
set_option maxHeartbeats 4000000 in
theorem gNew (H : SepK w0 w K T) (room : Int) :
    Calls Try.prog 40 #[.int .i64 room] w fun e w' => ∃ g s t, e = .returned (.pointer (some ⟨g, 0, none⟩)) ∧ g ≠ s ∧ g ≠ t ∧ s ≠ t ∧ (∀ p ∈ K, p.1 ≠ g ∧ p.1 ≠ s ∧ p.1 ≠ t) ∧ SepK w0 w' ((g, gblk s t (.slice none 0 0)) :: (s, tblk room (.slice none 0 0)) :: (t, rblk (.slice none 0 0) (.slice none 0 0)) :: K) T := by
  have H1 := ((H.alloc (tblk room (.slice none 0 0))).alloc (rblk (.slice none 0 0) (.slice none 0 0))).alloc (gblk w.heap.size (w.heap.size + 1) (.slice none 0 0))
  simp only [alloc_size] at H1
  go_enter Try.func40, Try.ntmps40
  go_wp2_with fail
  go_ret
  refine ⟨w.heap.size + 1 + 1, w.heap.size, w.heap.size + 1, rfl, by omega, by omega, by omega, fun p hp => ?_, H1.drop _ (by intro p hp; simp at hp ⊢; rcases hp with h | h | h | h <;> simp [h])⟩
  have := lt_of_heap (H.blk (b := p.1) (o := p.2) hp)
  refine ⟨by omega, by omega, by omega⟩
end
end Go.Proofs.Ytgleceijdedlkaa
