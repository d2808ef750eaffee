/- A step of a heap, beside an empty heap of the reference. -/
import Derived.Test.YtgleceijdedlkaaCounts14
namespace Go.Proofs.Ytgleceijdedlkaa
open Go.RowKit
set_option linter.unusedVariables false
set_option linter.unusedSimpArgs false
/-- What n steps have made of a heap. -/
structure Inv (room : Int) (n : Nat) (st : HS) : Prop where
  bd : ∀ q c k, aget st.ob q = some (c, k) → 0 ≤ c ∧ c ≤ n
  used : st.used = usedOf st.sl
  le : st.used ≤ room
  len : st.sl.length ≤ n
  each : ∀ p ∈ st.sl, p.2.length ≤ 128
theorem Inv.start (room : Int) (h : 0 ≤ room) : Inv room 0 HS.nil := ⟨fun q c k h => (by cases h), rfl, h, (by simp [HS.nil]), fun p hp => (by simp [HS.nil] at hp)⟩
theorem Inv.more {room : Int} {n : Nat} {st : HS} (h : Inv room n st) : Inv room (n + 1) st :=
  { h with bd := fun q c k hq => by have := h.bd q c k hq; omega, len := by have := h.len; omega }
theorem Inv.lo {room : Int} {n : Nat} {st : HS} (h : Inv room n st) : 0 ≤ st.used := h.used ▸ usedOf_nonneg _
theorem Inv.made {room : Int} {n : Nat} {st : HS} (h : Inv room n st) (k m kind : Int) (hk : k ∉ st.sl.map (·.1)) (hm : okc m = true) (hr : st.used + cls m ≤ room) : Inv room (n + 1) (st.made k m kind) := by
  have hm' : 1 ≤ m ∧ m ≤ 128 := by simpa [okc] using hm
  have e : ((List.replicate m.toNat (0 : UInt8)).length : Int) = m := by simp; omega
  refine ⟨fun q c kk hq => ?_, ?_, hr, ?_, fun p hp => ?_⟩
  · simp only [HS.made, aget_aput] at hq
    split at hq
    · cases hq
      omega
    · have := h.bd q c kk hq
      omega
  · simp only [HS.made]
    rw [usedOf_put _ _ _ hk, e, h.used]
  · have := length_aput st.sl k (List.replicate m.toNat (0 : UInt8))
    have := h.len
    simp only [HS.made]
    omega
  · simp only [HS.made] at hp
    rcases mem_aput hp with rfl | hp
    · simp; omega
    · exact h.each p hp
theorem Inv.set {room : Int} {n : Nat} {st : HS} (h : Inv room n st) (q : Int × Int) (c k : Int) (h0 : 0 ≤ c) (h1 : c ≤ n + 1) : Inv room (n + 1) { st with ob := aput st.ob q (c, k) } := by
  refine ⟨fun p c' kk hq => ?_, h.used, h.le, by have := h.len; simp only; omega, h.each⟩
  simp only [aget_aput] at hq
  split at hq
  · cases hq
    omega
  · have := h.bd p c' kk hq
    omega
theorem Inv.free {room : Int} {n : Nat} {st : HS} (h : Inv room n st) (hn : (st.sl.map (·.1)).Nodup) (a b : Int) (bs : List UInt8) (hb : aget st.sl a = some bs) :
    Inv room (n + 1) { used := st.used - cls bs.length, sl := adel st.sl a, L := st.L, V := adel st.V a, ob := adel st.ob (a, b) } := by
  have hc := cls_pos bs.length
  refine ⟨fun p c' kk hq => ?_, ?_, by have := h.le; simp only; omega, ?_, fun p hp => h.each p (mem_adel hp).1⟩
  · simp only [aget_adel] at hq
    split at hq
    · cases hq
    · have := h.bd p c' kk hq
      omega
  · simp only
    rw [usedOf_del _ _ _ hn hb, h.used]
  · have := length_adel st.sl a
    have := h.len
    simp only
    omega
theorem usedOf_same (sl : List (Int × List UInt8)) (k : Int) (bs cs : List UInt8) (h : aget sl k = some bs) (hl : cs.length = bs.length) : usedOf (aput sl k cs) = usedOf sl ∧ (aput sl k cs).length = sl.length := by
  induction sl with
  | nil => simp [aget] at h
  | cons p l ih =>
    obtain ⟨a, b⟩ := p
    unfold aput
    by_cases hk : a = k
    · subst hk
      rw [if_pos rfl]
      simp only [aget, if_true] at h
      obtain rfl : b = bs := by simpa using h
      simp [usedOf, hl]
    · rw [if_neg hk]
      simp only [aget, if_neg hk] at h
      obtain ⟨i1, i2⟩ := ih h
      simp only [usedOf, List.map_cons, List.sum_cons, List.length_cons] at i1 ⊢
      omega
theorem Inv.write {room : Int} {n : Nat} {st : HS} (h : Inv room n st) (a : Int) (bs cs : List UInt8) (hb : aget st.sl a = some bs) (hl : cs.length = bs.length) : Inv room (n + 1) { st with sl := aput st.sl a cs } := by
  obtain ⟨u1, u2⟩ := usedOf_same st.sl a bs cs hb hl
  have hbl := h.each _ (aget_mem hb)
  refine ⟨fun q c k hq => by have := h.bd q c k hq; omega, by simp only; rw [u1, h.used], h.le, by have := h.len; simp only; omega, fun p hp => ?_⟩
  rcases mem_aput hp with rfl | hp
  · simp only at hbl ⊢
    omega
  · exact h.each p hp
/-! ### an empty heap of the reference -/
def blkR (o1 o2 : Value) : Obj := .cells #[o1, o2, .slice none 0 0] 109 (0, 0)
set_option maxRecDepth 100000 in
theorem At_empty (w : World) (r : Nat) (o1 o2 : Value) (h : w.heap[r]? = some (blkR o1 o2)) (q : Int × Int) :
    Calls Try.prog 61 #[.pointer (some ⟨r, 0, none⟩), .agg #[.int .i64 q.1, .int .u64 q.2]] w fun e w' => e = .returned (.int .i64 (-1)) ∧ Upd [] w w' := by
  have c2 : w.cell? ⟨r, 2, none⟩ = some (.slice none 0 0) := cell_of h 2
  have lt := lt_of_heap h
  go_enter Try.func61, Try.ntmps61
  go_wp2_with fail
  go_loopg [5] 0 (fun kq v3 w' => v3 = .int .i64 0 ∧ w' = w.alloc (.cells #[.int .i64 q.1, .int .u64 q.2] 30))
  case atStart => exact ⟨rfl, rfl⟩
  case round =>
    obtain ⟨rfl, rfl⟩ := hrel
    go_wp2_with fail
    go_ret
    exact ⟨rfl, (Upd.refl [] w).alloc _⟩
set_option maxRecDepth 100000 in
theorem RHold_empty (w : World) (r : Nat) (o1 o2 : Value) (h : w.heap[r]? = some (blkR o1 o2)) (q : Int × Int) :
    Calls Try.prog 67 #[.pointer (some ⟨r, 0, none⟩), .agg #[.int .i64 q.1, .int .u64 q.2]] w fun e w' => e = .returned (.tuple #[.int .i64 0, .int .i64 130]) ∧ Upd [] w w' := by
  go_enter Try.func67, Try.ntmps67
  go_wp2_with fail
  refine (At_empty _ r o1 o2 (((Upd.refl [] w).alloc _).heap h (by simp)) q).mono ?_
  rintro e w1 ⟨rfl, u1⟩
  go_wp2_with fail
  go_ret2
  exact ⟨rfl, ((Upd.refl [] w).alloc _).trans u1⟩
set_option maxRecDepth 100000 in
theorem RDrop_empty (w : World) (r : Nat) (o1 o2 : Value) (h : w.heap[r]? = some (blkR o1 o2)) (q : Int × Int) :
    Calls Try.prog 68 #[.pointer (some ⟨r, 0, none⟩), .agg #[.int .i64 q.1, .int .u64 q.2]] w fun e w' => e = .returned (.tuple #[.int .i64 0, .int .i64 130]) ∧ Upd [] w w' := by
  go_enter Try.func68, Try.ntmps68
  go_wp2_with fail
  refine (At_empty _ r o1 o2 (((Upd.refl [] w).alloc _).heap h (by simp)) q).mono ?_
  rintro e w1 ⟨rfl, u1⟩
  go_wp2_with fail
  go_ret2
  exact ⟨rfl, ((Upd.refl [] w).alloc _).trans u1⟩
set_option maxRecDepth 100000 in
theorem RFree_empty (w : World) (r : Nat) (o1 o2 : Value) (h : w.heap[r]? = some (blkR o1 o2)) (q : Int × Int) :
    Calls Try.prog 69 #[.pointer (some ⟨r, 0, none⟩), .agg #[.int .i64 q.1, .int .u64 q.2]] w fun e w' => e = .returned (.int .i64 130) ∧ Upd [] w w' := by
  go_enter Try.func69, Try.ntmps69
  go_wp2_with fail
  refine (At_empty _ r o1 o2 (((Upd.refl [] w).alloc _).heap h (by simp)) q).mono ?_
  rintro e w1 ⟨rfl, u1⟩
  go_wp2_with fail
  go_ret
  exact ⟨rfl, ((Upd.refl [] w).alloc _).trans u1⟩
set_option maxRecDepth 100000 in
theorem RRead_empty (w : World) (r : Nat) (o1 o2 : Value) (h : w.heap[r]? = some (blkR o1 o2)) (q : Int × Int) (i n : Int) :
    Calls Try.prog 70 #[.pointer (some ⟨r, 0, none⟩), .agg #[.int .i64 q.1, .int .u64 q.2], .int .i64 i, .int .i64 n] w fun e w' => e = .returned (.tuple #[.string ByteArray.empty, .int .i64 130]) ∧ Upd [] w w' := by
  go_enter Try.func70, Try.ntmps70
  go_wp2_with fail
  refine (At_empty _ r o1 o2 (((Upd.refl [] w).alloc _).heap h (by simp)) q).mono ?_
  rintro e w1 ⟨rfl, u1⟩
  go_wp2_with fail
  go_ret2
  exact ⟨rfl, ((Upd.refl [] w).alloc _).trans u1⟩
set_option maxRecDepth 100000 in
theorem RWrite_empty (w : World) (r : Nat) (o1 o2 : Value) (h : w.heap[r]? = some (blkR o1 o2)) (q : Int × Int) (i : Int) (t : ByteArray) :
    Calls Try.prog 71 #[.pointer (some ⟨r, 0, none⟩), .agg #[.int .i64 q.1, .int .u64 q.2], .int .i64 i, .string t] w fun e w' => e = .returned (.int .i64 130) ∧ Upd [] w w' := by
  go_enter Try.func71, Try.ntmps71
  go_wp2_with fail
  refine (At_empty _ r o1 o2 (((Upd.refl [] w).alloc _).heap h (by simp)) q).mono ?_
  rintro e w1 ⟨rfl, u1⟩
  go_wp2_with fail
  go_ret
  exact ⟨rfl, ((Upd.refl [] w).alloc _).trans u1⟩
set_option maxRecDepth 100000 in
theorem RNew_empty (w : World) :
    Calls Try.prog 40 #[.int .i64 0] w fun e w' => ∃ r o1 o2, e = .returned (.pointer (some ⟨r, 0, none⟩)) ∧ w'.heap[r]? = some (blkR o1 o2) ∧ w.heap.size ≤ r ∧ Upd [] w w' := by
  go_enter Try.func40, Try.ntmps40
  go_wp2_with fail
  go_ret
  refine ⟨w.heap.size + 1 + 1, .pointer (some ⟨w.heap.size, 0, none⟩), .pointer (some ⟨w.heap.size + 1, 0, none⟩), rfl, ?_, by omega, (((Upd.refl [] w).alloc _).alloc _).alloc _⟩
  have := heap_alloc_new ((w.alloc (.cells #[.int .i64 0, .slice none 0 0] 96)).alloc (.cells #[.slice none 0 0, .slice none 0 0] 73)) (.cells #[.pointer (some ⟨w.heap.size, 0, none⟩), .pointer (some ⟨w.heap.size + 1, 0, none⟩), .slice none 0 0] 109)
  simpa [blkR] using this
/-- What a step of q's makes of a heap. -/
structure Did (room : Int) (n : Nat) (q : Int × Int) (st st' : HS) : Prop where
  inv : Inv room (n + 1) st'
  ob : ∀ p, p ≠ q → aget st'.ob p = aget st.ob p
  sl : ∀ p, p ≠ q → (aget st.ob p).isSome = true → aget st'.sl p.1 = aget st.sl p.1
theorem Did.same {room : Int} {n : Nat} {q : Int × Int} {st : HS} (h : Inv room n st) : Did room n q st st := ⟨h.more, fun _ _ => rfl, fun _ _ _ => rfl⟩
theorem other_slot {w0 w : World} {K : List (Nat × Obj)} {x : Nat} {room : Int} {st : HS} {T : Res} (h : SepK w0 w K (star (heldR x room st) T)) {p q : Int × Int} (hne : p ≠ q) (hp : (aget st.ob p).isSome = true) (hq : (aget st.ob q).isSome = true) : p.1 ≠ q.1 := fun e => by
  have h1 := (h.inv2 p).1 hp
  have h2 := (h.inv2 q).1 hq
  rw [e, h2] at h1
  exact hne (Option.some.inj h1).symm
theorem Did.set {room : Int} {n : Nat} {q : Int × Int} {st : HS} (h : Inv room n st) (c k : Int) (h0 : 0 ≤ c) (h1 : c ≤ n + 1) : Did room n q st { st with ob := aput st.ob q (c, k) } :=
  ⟨h.set q c k h0 h1, fun p hp => aget_aput_ne _ _ (Ne.symm hp), fun _ _ _ => rfl⟩
theorem Did.free {w0 w : World} {K : List (Nat × Obj)} {x : Nat} {room : Int} {n : Nat} {st : HS} {T : Res} (H : SepK w0 w K (star (heldR x room st) T)) (h : Inv room n st) (a b : Int) (y : Int × Int) (hy : aget st.ob (a, b) = some y) (bs : List UInt8) (hb : aget st.sl a = some bs) :
    Did room n (a, b) st { used := st.used - cls bs.length, sl := adel st.sl a, L := st.L, V := adel st.V a, ob := adel st.ob (a, b) } := by
  have hnd : (st.sl.map (·.1)).Nodup := by
    obtain ⟨N, hN⟩ := H.get
    exact held_nodup hN
  refine ⟨h.free hnd a b bs hb, fun p hp => ?_, fun p hp hs => ?_⟩
  · simp only [aget_adel]
    rw [if_neg (Ne.symm hp)]
  · have := other_slot H hp hs (by rw [hy]; rfl)
    simp only [aget_adel]
    rw [if_neg (Ne.symm this)]
theorem Did.write {w0 w : World} {K : List (Nat × Obj)} {x : Nat} {room : Int} {n : Nat} {st : HS} {T : Res} (H : SepK w0 w K (star (heldR x room st) T)) (h : Inv room n st) (a b : Int) (y : Int × Int) (hy : aget st.ob (a, b) = some y) (bs cs : List UInt8) (hb : aget st.sl a = some bs) (hl : cs.length = bs.length) :
    Did room n (a, b) st { st with sl := aput st.sl a cs } := by
  refine ⟨h.write a bs cs hb hl, fun p hp => rfl, fun p hp hs => ?_⟩
  have := other_slot H hp hs (by rw [hy]; rfl)
  exact aget_aput_ne _ _ (Ne.symm this)
end Go.Proofs.Ytgleceijdedlkaa
