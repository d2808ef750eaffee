/- A hash: what Put does to memory. -/
import Derived.Test.YtagjcnhgappcjaaHash3
import Derived.OwnWalk
import Derived.Deep.RegionWith
namespace Go.Proofs.Ytagjcnhgappcjaa
open Go.RowKit
set_option linter.unusedVariables false
set_option linter.unusedSimpArgs false
set_option linter.unusedSectionVars false
theorem info5 : (Try.prog.info? 5).map (fun i => (i.zero, i.size, i.bytes)) = some (some (.int .u8 0), 1, 1) := by kernel_rfl
def zb (n : Nat) : Obj := .cells ((List.replicate n (0 : UInt8)).map bcell).toArray 5 (0, 0)
section
variable {w0 w : World} {K : List (Nat × Obj)} {T U : Res} [Good T] [Good U] {h : Nat} {size n : Int} {bs bv : Nat} {l : List Ent}
theorem SepK.addOne (H : SepK w0 w K (star (allR l) U)) (i : Int) (k : ByteArray) (m : Nat) :
    SepK w0 ((w.alloc (zb m)).alloc (.cells #[.string k, .slice (some ⟨w.heap.size, 0, none⟩) m m] 69 (0, 0))) K (star (allR (l ++ [(i, (w.heap.size + 1, w.heap.size, k, List.replicate m 0))])) U) := by
  have eo : oneObj (i, (w.heap.size + 1, w.heap.size, k, List.replicate m 0)) = .cells #[.string k, .slice (some ⟨w.heap.size, 0, none⟩) m m] 69 (0, 0) := by simp [oneObj]
  rw [← eo]
  have u : Upd [] w ((w.alloc (zb m)).alloc (oneObj (i, (w.heap.size + 1, w.heap.size, k, List.replicate m 0)))) := ((Upd.refl [] w).alloc _).alloc _
  refine H.step fun N hR hN => ⟨?_, .of u⟩
  have hlt : ∀ p ∈ l, p.2.1 < w.heap.size ∧ p.2.2.1 < w.heap.size := fun p hp => ⟨lt_of_heap (hR.1 p hp).1, (hR.1 p hp).2.1.lt⟩
  have hR' := Good.kept hR u (by simp)
  obtain ⟨h1, h2, h3, h4⟩ := hR'
  refine ⟨fun p hp => ?_, ?_, ?_, fun p hp q hq => ?_⟩
  · rcases List.mem_append.1 hp with hp | hp
    · exact h1 p hp
    · obtain rfl := List.mem_singleton.1 hp
      have e := heap_alloc_new (w.alloc (zb m)) (oneObj (i, (w.heap.size + 1, w.heap.size, k, List.replicate m 0)))
      rw [alloc_size] at e
      exact ⟨e, heap_alloc_old (heap_alloc_new w (zb m)) _, hN _ (by simp), hN _ (Nat.le_refl _)⟩
  · rw [List.map_append, List.nodup_append]
    refine ⟨h2, by simp, fun a ha b hb e => ?_⟩
    obtain ⟨p, hp, rfl⟩ := List.mem_map.1 ha
    have := hlt p hp
    simp at hb
    omega
  · rw [List.map_append, List.nodup_append]
    refine ⟨h3, by simp, fun a ha b hb e => ?_⟩
    obtain ⟨p, hp, rfl⟩ := List.mem_map.1 ha
    have := hlt p hp
    simp at hb
    omega
  · rcases List.mem_append.1 hp with hp | hp <;> rcases List.mem_append.1 hq with hq | hq
    · exact h4 p hp q hq
    · obtain rfl := List.mem_singleton.1 hq
      have := hlt p hp
      simp; omega
    · obtain rfl := List.mem_singleton.1 hp
      have := hlt q hq
      simp; omega
    · obtain rfl := List.mem_singleton.1 hp
      obtain rfl := List.mem_singleton.1 hq
      simp
theorem hPut_no (H : SepK w0 w K (hR bs bv l T)) (hK : (h, hblk size n bs bv) ∈ K) (k : ByteArray) (hk : k.size ≠ 8) :
    Calls Try.prog 11 #[.pointer (some ⟨h, 0, none⟩), .string k] w fun e w' => e = .returned (.tuple #[.int .i64 0, .bool false, .int .i64 2]) ∧ w = w' := by
  have hb := H.blk hK
  go_enter Try.func11, Try.ntmps11
  go_wp2_with (go_at_call 27; (with_reducible refine (may_no hb k hk).mono ?_); rintro e w1 ⟨rfl, rfl⟩)
  refine bodyPost_ret (v := .tuple #[.int .i64 0, .bool false, .int .i64 2]) (by simp [results, Try.results11, go_sem]) rfl ⟨rfl, rfl⟩
theorem hPut_nil (w : World) (k : ByteArray) : Calls Try.prog 11 #[.pointer none, .string k] w fun e w' => e = .returned (.tuple #[.int .i64 0, .bool false, .int .i64 1]) ∧ w = w' := by
  go_enter Try.func11, Try.ntmps11
  go_wp2_with (go_at_call 27; (with_reducible refine (may_nil _ k).mono ?_); rintro e w1 ⟨rfl, rfl⟩)
  refine bodyPost_ret (v := .tuple #[.int .i64 0, .bool false, .int .i64 1]) (by simp [results, Try.results11, go_sem]) rfl ⟨rfl, rfl⟩
theorem hPut_old (H : SepK w0 w K (hR bs bv l T)) (hK : (h, hblk size n bs bv) ∈ K) (k : ByteArray) (hk : k.size = 8) (i : Int) (hi : aget (swp (vsOf l)) k = some i) :
    Calls Try.prog 11 #[.pointer (some ⟨h, 0, none⟩), .string k] w fun e w' => e = .returned (.tuple #[.int .i64 i, .bool false, .int .i64 0]) ∧ w = w' := by
  have hb := H.blk hK
  have c2 := cell_of hb 2
  have lt := lt_of_heap hb
  simp only [List.getElem?_toArray, List.getElem?_cons_zero, List.getElem?_cons_succ] at c2
  have r1 := find_r H k hk
  rw [hi] at r1
  simp only [Option.getD_some, Option.isSome_some] at r1
  go_enter Try.func11, Try.ntmps11
  go_wp2_with (go_at_call 27; (with_reducible refine (may_c hb k hk).mono ?_); rintro e w1 ⟨rfl, rfl⟩)
  refine bodyPost_ret (v := .tuple #[.int .i64 i, .bool false, .int .i64 0]) (by simp [results, Try.results11, go_sem]) rfl ⟨rfl, rfl⟩
theorem hPut_full (H : SepK w0 w K (hR bs bv l T)) (hK : (h, hblk size n bs bv) ∈ K) (hn : 1 ≤ n) (hn2 : n ≤ 256) (k : ByteArray) (hk : k.size = 8) (hi : aget (swp (vsOf l)) k = none) (hq : ∀ j : Nat, (j : Int) < n → (j : Int) ∈ l.map (·.1)) :
    Calls Try.prog 11 #[.pointer (some ⟨h, 0, none⟩), .string k] w fun e w' => e = .returned (.tuple #[.int .i64 0, .bool false, .int .i64 6]) ∧ w = w' := by
  have hb := H.blk hK
  have c2 := cell_of hb 2
  have lt := lt_of_heap hb
  simp only [List.getElem?_toArray, List.getElem?_cons_zero, List.getElem?_cons_succ] at c2
  have r1 := find_r H k hk
  rw [hi] at r1
  simp only [Option.getD_none, Option.isSome_none] at r1
  have z1 : decide ((-1 : Int) < 0) = true := by decide
  go_enter Try.func11, Try.ntmps11
  go_wp2_with (first
    | (go_at_call 27; (with_reducible refine (may_c hb k hk).mono ?_); rintro e w1 ⟨rfl, rfl⟩)
    | (go_at_call 28; (with_reducible refine (hFree H hK hn hn2).mono ?_); rintro e w1 ⟨⟨r, rfl, hr⟩, rfl⟩; obtain rfl : r = -1 := (by rcases hr with ⟨j, -, hj, hj2, -⟩ | ⟨rfl, -⟩; exact absurd (hq j hj) hj2; rfl)))
  refine bodyPost_ret (v := .tuple #[.int .i64 0, .bool false, .int .i64 6]) (by simp [results, Try.results11, go_sem]) rfl ⟨rfl, rfl⟩
/-- What Put did where it was new. -/
def PutDid (w0 : World) (K : List (Nat × Obj)) (T : Res) (size n : Int) (bs bv : Nat) (l : List Ent) (k : ByteArray) (e : Ending) (w' : World) : Prop :=
  ∃ i ob gb : Nat, e = .returned (.tuple #[.int .i64 (i : Int), .bool true, .int .i64 0]) ∧ (i : Int) < n ∧ (i : Int) ∉ l.map (·.1) ∧ (∀ j : Nat, j < i → (j : Int) ∈ l.map (·.1)) ∧ SepK w0 w' K (hR bs bv (l ++ [((i : Int), (ob, gb, k, List.replicate size.toNat 0))]) T)
set_option maxRecDepth 100000 in
set_option maxHeartbeats 2000000 in
theorem hPut_new (H : SepK w0 w K (hR bs bv l T)) (hK : (h, hblk size n bs bv) ∈ K) (hs : 1 ≤ size) (hs2 : size ≤ 128) (hn : 1 ≤ n) (hn2 : n ≤ 256) (k : ByteArray) (hk : k.size = 8) (hi : aget (swp (vsOf l)) k = none) (hq : ∃ j : Nat, (j : Int) < n ∧ (j : Int) ∉ l.map (·.1)) :
    Calls Try.prog 11 #[.pointer (some ⟨h, 0, none⟩), .string k] w (PutDid w0 K T size n bs bv l k) := by
  have hb := H.blk hK
  have c2 := cell_of hb 2
  have lt := lt_of_heap hb
  simp only [List.getElem?_toArray, List.getElem?_cons_zero, List.getElem?_cons_succ] at c2
  have r1 := find_r H k hk
  rw [hi] at r1
  simp only [Option.getD_none, Option.isSome_none] at r1
  have hmk : ∀ w', (Instr.makeSlice 58 (.int .i64 size) (.int .i64 size)).run Try.prog w' = .ok (.slice (some ⟨w'.heap.size, 0, none⟩) size.toNat size.toNat) (w'.alloc (zb size.toNat)) := fun w' => make_bytes Try.underlying58 info5 w' size (by omega) (by omega)
  go_enter Try.func11, Try.ntmps11
  go_wp2_with (first
    | (go_at_call 27; (with_reducible refine (may_c hb k hk).mono ?_); rintro e w1 ⟨rfl, rfl⟩)
    | (go_at_call 28; (with_reducible refine (hFree H hK hn hn2).mono ?_); rintro e w1 ⟨⟨r, rfl, hr⟩, rfl⟩; obtain ⟨i, rfl, hin, hi1, hlow⟩ : ∃ i : Nat, r = i ∧ (i : Int) < n ∧ (i : Int) ∉ l.map (·.1) ∧ ∀ j : Nat, j < i → (j : Int) ∈ l.map (·.1) := (by rcases hr with hr | ⟨-, hr⟩; exact hr; obtain ⟨j, hj, hj2⟩ := hq; exact absurd (hr j hj) hj2); have z1 : decide ((i : Int) < 0) = false := decide_eq_false (by omega); have hiI : okI (i : Int) := WalkArith.wf_i64 (by omega))
    | (at_mapUpdate; refine wl_put rfl (.tmp 35) (.tmp 36) _ rfl ks Try.underlying56 rfl (show SepK w0 w K (star (mapR Value.string (Value.int .i64) okS8 bs (swp (vsOf l))) (star (mapR (Value.int .i64) eo okI bv l) (star (allR l) T))) from H) k (i : Int) rfl rfl (by unfold okS8 maxLen; omega) ?_; intro w2 h2; have hb2 := h2.blk hK; have d0 := cell_of hb2 0; have d3 := cell_of hb2 3; have lt2 := lt_of_heap hb2; simp only [List.getElem?_toArray, List.getElem?_cons_zero, List.getElem?_cons_succ] at d0 d3))
  have h4 := ((SepK.pull2 h2).addOne (i : Int) k size.toNat).upd ((Upd.refl [] _).drew)
  have h5 := h4.push2.swap
  have e1 : aput l (i : Int) (w2.heap.size + 1, w2.heap.size, k, List.replicate size.toNat (0 : UInt8)) = l ++ [((i : Int), (w2.heap.size + 1, w2.heap.size, k, List.replicate size.toNat 0))] := aput_new _ hi1
  have e2 : aput (swp (vsOf l)) k (i : Int) = swp (vsOf (l ++ [((i : Int), (w2.heap.size + 1, w2.heap.size, k, List.replicate size.toNat 0))])) := by
    rw [aput_new _ ((aget_none_iff _ _).1 hi)]
    simp [vsOf, swp]
  have lt3 : h < (w2.alloc (zb size.toNat)).heap.size := by simp; omega
  obtain ⟨w4, hrun, m4, u4, z4⟩ := h5.map.update (P := Try.prog) ki Try.underlying63 hiI (w2.heap.size + 1, w2.heap.size, k, List.replicate size.toNat (0 : UInt8))
  have h6 := h5.step (R' := mapR (Value.int .i64) eo okI bv (aput l (i : Int) (w2.heap.size + 1, w2.heap.size, k, List.replicate size.toNat (0 : UInt8)))) fun N hR hN => ⟨⟨m4, hR.2⟩, .of1 u4 hR.2⟩
  rw [e1, e2] at h6
  unfold eo at hrun
  clear u4 z4 m4
  go_region
  all_goals go_wp2_with fail
  all_goals
    refine bodyPost_ret (v := .tuple #[.int .i64 (i : Int), .bool true, .int .i64 0]) (by simp [results, Try.results11, go_sem]) rfl ?_
    exact (Iff.of_eq (PutDid.eq_1 ..)).2 ⟨i, w2.heap.size + 1, w2.heap.size, rfl, hin, hi1, hlow, h6.swap⟩
end
end Go.Proofs.Ytagjcnhgappcjaa
