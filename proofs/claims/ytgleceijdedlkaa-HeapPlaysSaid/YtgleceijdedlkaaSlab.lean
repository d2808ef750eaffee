/- The slab: what New, Class, Take, of, Write, Read, Give, Size, Used, Room do to memory. -/
import Derived.Test.YtgleceijdedlkaaMapLib
import Derived.Test.YtgleceijdedlkaaByteLib
import Derived.Test.YtgleceijdedlkaaHandle
import Derived.Test.YtgleceijdedlkaaProg
import Derived.WalkKit
import Derived.WalkMore
import Derived.RegionTactic
import Derived.BigRegion
import Derived.Deep.QuietTactic
import Derived.BigQuiet
import Derived.WalkSpells
import Derived.WalkLawsBesides
import Derived.KernelRfl
import Derived.Outline
import Derived.Deep.LoopGhost
namespace Go.Proofs.Ytgleceijdedlkaa
open Go.RowKit
set_option linter.unusedVariables false
set_option linter.unusedSimpArgs false
/-- The class of a size; 0: there is none. -/
def cls (n : Int) : Int := if n < 1 then 0 else if n ≤ 8 then 8 else if n ≤ 16 then 16 else if n ≤ 32 then 32 else if n ≤ 64 then 64 else if n ≤ 128 then 128 else 0
def okc (n : Int) : Bool := decide (1 ≤ n) && decide (n ≤ 128)
theorem ix0 (w : World) : (Instr.index 137 (.agg #[.int .i64 8, .int .i64 16, .int .i64 32, .int .i64 64, .int .i64 128]) (.int .i64 0)).run Try.prog w = .ok (.int .i64 8) w := by kernel_rfl
theorem ix1 (w : World) : (Instr.index 137 (.agg #[.int .i64 8, .int .i64 16, .int .i64 32, .int .i64 64, .int .i64 128]) (.int .i64 1)).run Try.prog w = .ok (.int .i64 16) w := by kernel_rfl
theorem ix2 (w : World) : (Instr.index 137 (.agg #[.int .i64 8, .int .i64 16, .int .i64 32, .int .i64 64, .int .i64 128]) (.int .i64 2)).run Try.prog w = .ok (.int .i64 32) w := by kernel_rfl
theorem ix3 (w : World) : (Instr.index 137 (.agg #[.int .i64 8, .int .i64 16, .int .i64 32, .int .i64 64, .int .i64 128]) (.int .i64 3)).run Try.prog w = .ok (.int .i64 64) w := by kernel_rfl
theorem ix4 (w : World) : (Instr.index 137 (.agg #[.int .i64 8, .int .i64 16, .int .i64 32, .int .i64 64, .int .i64 128]) (.int .i64 4)).run Try.prog w = .ok (.int .i64 128) w := by kernel_rfl
theorem ix (k : Nat) (v : Int) (h : [(8 : Int), 16, 32, 64, 128][k]? = some v) (w : World) : (Instr.index 137 (.agg #[.int .i64 8, .int .i64 16, .int .i64 32, .int .i64 64, .int .i64 128]) (.int .i64 (k : Int))).run Try.prog w = .ok (.int .i64 v) w := by
  rcases k with _ | _ | _ | _ | _ | k
  · cases h; exact ix0 w
  · cases h; exact ix1 w
  · cases h; exact ix2 w
  · cases h; exact ix3 w
  · cases h; exact ix4 w
  · simp at h
theorem cls_at (n : Int) (k : Nat) (v : Int) (h : [(8 : Int), 16, 32, 64, 128][k]? = some v) (h1 : 1 ≤ n) (hp : ∀ j u, j < k → [(8 : Int), 16, 32, 64, 128][j]? = some u → u < n) (hv : n ≤ v) : cls n = v ∧ okc n = true := by
  have q0 := fun hk => hp 0 8 hk rfl
  have q1 := fun hk => hp 1 16 hk rfl
  have q2 := fun hk => hp 2 32 hk rfl
  have q3 := fun hk => hp 3 64 hk rfl
  match k, h with
  | 0, h => cases h; simp [cls, okc]; omega
  | 1, h => cases h; have := q0 (by omega); simp [cls, okc]; omega
  | 2, h => cases h; have := q0 (by omega); have := q1 (by omega); simp [cls, okc]; omega
  | 3, h => cases h; have := q0 (by omega); have := q1 (by omega); have := q2 (by omega); simp [cls, okc]; omega
  | 4, h => cases h; have := q0 (by omega); have := q1 (by omega); have := q2 (by omega); have := q3 (by omega); simp [cls, okc]; omega
theorem cls_none (n : Int) (h1 : 1 ≤ n) (hp : ∀ j u, j < 5 → [(8 : Int), 16, 32, 64, 128][j]? = some u → u < n) : cls n = 0 ∧ okc n = false := by
  have := hp 4 128 (by omega) rfl
  simp [cls, okc]; omega
set_option maxRecDepth 100000 in
set_option maxHeartbeats 1000000 in
theorem Class_spec (n : Int) (w : World) : Calls Try.prog 49 #[.int .i64 n] w fun e w' => e = .returned (.tuple #[.int .i64 (cls n), .bool (okc n)]) ∧ Upd [] w w' := by
  by_cases h1 : n < 1
  · have z : decide (n < 1) = true := decide_eq_true h1
    go_enter Try.func49, Try.ntmps49
    go_wp2
    go_ret2
    exact ⟨by simp [cls, okc, h1]; omega, by repeat (first | exact Upd.refl [] w | (apply Upd.alloc) | (refine Upd.setCell ?_ _ _ (.inr (by simp))))⟩
  · have z : decide (n < 1) = false := decide_eq_false h1
    go_enter Try.func49, Try.ntmps49
    go_wp2
    go_loopg [11] 5 (fun kq v11 w' => ∃ k : Nat, v11 = .int .i64 (k : Int) ∧ kq + k = 5 ∧ (∀ j u, j < k → [(8 : Int), 16, 32, 64, 128][j]? = some u → u < n) ∧ Upd [] w w')
    case atStart => exact ⟨0, rfl, rfl, fun j u hj => absurd hj (by omega), by repeat (first | exact Upd.refl [] w | (apply Upd.alloc) | (refine Upd.setCell ?_ _ _ (.inr (by simp))))⟩
    case round =>
      obtain ⟨k, rfl, hk, hp, hu⟩ := hrel
      by_cases hk5 : k < 5
      · obtain ⟨v, hv⟩ : ∃ v, [(8 : Int), 16, 32, 64, 128][k]? = some v := ⟨_, List.getElem?_eq_getElem (by simpa using hk5)⟩
        have z1 : decide ((k : Int) < 5) = true := decide_eq_true (by omega)
        have hx := ix k v hv
        by_cases hle : n ≤ v
        · have z2 : decide (n ≤ v) = true := decide_eq_true hle
          obtain ⟨e1, e2⟩ := cls_at n k v hv (by omega) hp hle
          go_wp2
          go_ret2
          exact ⟨by rw [e1, e2]; rfl, hu⟩
        · have z2 : decide (n ≤ v) = false := decide_eq_false hle
          go_wp2
          go_roundg (gk - 1)
          case measure => omega
          case rel => exact ⟨k + 1, by go_num, by omega, fun j u hj hu' => by
            rcases Nat.lt_succ_iff_lt_or_eq.1 hj with h | rfl
            · exact hp j u h hu'
            · rw [hv] at hu'; cases hu'; omega, hu⟩
      · have z1 : decide ((k : Int) < 5) = false := decide_eq_false (by omega)
        obtain rfl : k = 5 := by omega
        obtain ⟨e1, e2⟩ := cls_none n (by omega) hp
        go_wp2
        go_ret2
        exact ⟨by rw [e1, e2]; rfl, hu⟩
/-! ### the slab -/
/-- A slot's slice. -/
def es (p : Nat × List UInt8) : Value := .slice (some ⟨p.1, 0, none⟩) p.2.length p.2.length
abbrev Slots := List (Int × (Nat × List UInt8))
structure SlabAt (w : World) (s bm : Nat) (room used : Int) (l : Slots) : Prop where
  cells : w.heap[s]? = some (.cells #[.int .i64 room, .int .i64 used, .map (some bm)] 118 (0, 0))
  map : MapAt (Value.int .i64) es okI w bm l
  bytes : ∀ p ∈ l, BytesAt 5 w p.2.1 p.2.2 ∧ p.2.1 ≠ s ∧ p.2.1 ≠ bm
  apart : (l.map (·.2.1)).Nodup
  d : s ≠ bm
theorem SlabAt.kept {S : List Nat} {w w' : World} {s bm : Nat} {room used : Int} {l : Slots} (h : SlabAt w s bm room used l) (u : Upd S w w') (h1 : s ∉ S) (h2 : bm ∉ S) (h3 : ∀ p ∈ l, p.2.1 ∉ S) : SlabAt w' s bm room used l :=
  ⟨u.heap h.cells h1, h.map.kept u h2, fun p hp => ⟨(h.bytes p hp).1.kept u (h3 p hp), (h.bytes p hp).2⟩, h.apart, h.d⟩
theorem SlabAt.keep {w w' : World} {s bm : Nat} {room used : Int} {l : Slots} (h : SlabAt w s bm room used l) (u : Upd [] w w') : SlabAt w' s bm room used l :=
  h.kept u (by simp) (by simp) (by simp)
theorem SlabAt.lts {w : World} {s bm : Nat} {room used : Int} {l : Slots} (h : SlabAt w s bm room used l) : s < w.heap.size ∧ bm < w.heap.size ∧ ∀ p ∈ l, p.2.1 < w.heap.size :=
  ⟨lt_of_heap h.cells, h.map.lt, fun p hp => (h.bytes p hp).1.lt⟩
theorem SlabAt.c0 {w : World} {s bm : Nat} {room used : Int} {l : Slots} (h : SlabAt w s bm room used l) : w.cell? ⟨s, 0, none⟩ = some (.int .i64 room) := cell_of h.cells 0
theorem SlabAt.c1 {w : World} {s bm : Nat} {room used : Int} {l : Slots} (h : SlabAt w s bm room used l) : w.cell? ⟨s, 1, none⟩ = some (.int .i64 used) := cell_of h.cells 1
theorem SlabAt.c2 {w : World} {s bm : Nat} {room used : Int} {l : Slots} (h : SlabAt w s bm room used l) : w.cell? ⟨s, 2, none⟩ = some (.map (some bm)) := cell_of h.cells 2
theorem NewSlab_spec (w : World) (room : Int) (h0 : 0 ≤ room) (h1 : room ≤ 65536) : Calls Try.prog 22 #[.int .i64 room] w fun e w' => ∃ s bm, e = .returned (.tuple #[.pointer (some ⟨s, 0, none⟩), .int .i64 0]) ∧ SlabAt w' s bm room 0 [] ∧ Upd [] w w' ∧ w.heap.size ≤ s ∧ w.heap.size ≤ bm := by
  have hmm := @run_makeMap Try.prog
  have z1 : decide (room < 0) = false := decide_eq_false (by omega)
  have z2 : decide (65536 < room) = false := decide_eq_false (by omega)
  go_enter Try.func22, Try.ntmps22
  go_wp2
  go_ret2
  refine ⟨w.heap.size + 1, w.heap.size, rfl, ⟨?_, ?_, by simp, by simp, by omega⟩, ((Upd.refl _ w).alloc _).alloc _, by omega, by omega⟩
  · have := heap_alloc_new (w.alloc (.map #[] 0)) (Obj.cells #[Value.int .i64 room, Value.int .i64 0, Value.map (some w.heap.size)] 118)
    simpa using this
  · exact (MapAt.made _ _ _ w).alloc _
theorem NewSlab_no (w : World) (room : Int) (h : room < 0 ∨ 65536 < room) : Calls Try.prog 22 #[.int .i64 room] w fun e w' => e = .returned (.tuple #[.pointer none, .int .i64 2]) ∧ Upd [] w w' := by
  rcases h with h | h
  · have z1 : decide (room < 0) = true := decide_eq_true h
    go_enter Try.func22, Try.ntmps22
    go_wp2
    go_ret2
    exact ⟨rfl, Upd.refl _ _⟩
  · have z1 : decide (room < 0) = false := decide_eq_false (by omega)
    have z2 : decide (65536 < room) = true := decide_eq_true h
    go_enter Try.func22, Try.ntmps22
    go_wp2
    go_ret2
    exact ⟨rfl, Upd.refl _ _⟩
theorem zero36 (w : World) : (zeroValue 36).run Try.prog w = .ok (.slice none 0 0) w := by kernel_rfl
theorem en116 (w : World) (r : Nat) : (binOp .eql 116 (.map (some r)) (.map none)).run Try.prog w = .ok (.bool false) w := run_eql_map_nil w 116 _ _ (some r) Try.underlying116
theorem look_none {w : World} {s bm : Nat} {room used : Int} {l : Slots} (h : SlabAt w s bm room used l) {x : Int} (hx : okI x) (hn : aget l x = none) :
    (Instr.lookup 116 (.map (some bm)) (.int .i64 x) true).run Try.prog w = .ok (.tuple #[.slice none 0 0, .bool false]) w := by
  rw [h.map.lookup ki Try.underlying116 (zero36 _) hx true, hn]; rfl
theorem look_some {w : World} {s bm : Nat} {room used : Int} {l : Slots} (h : SlabAt w s bm room used l) {x : Int} (hx : okI x) {b : Nat} {bs : List UInt8} (hn : aget l x = some (b, bs)) :
    (Instr.lookup 116 (.map (some bm)) (.int .i64 x) true).run Try.prog w = .ok (.tuple #[.slice (some ⟨b, 0, none⟩) bs.length bs.length, .bool true]) w := by
  rw [h.map.lookup ki Try.underlying116 (zero36 _) hx true, hn]; rfl
/-- The numbers below k are among the keys: there are k of them at least. -/
theorem pigeon : ∀ (k : Nat) (l : List Int), (∀ j : Nat, j < k → (j : Int) ∈ l) → k ≤ l.length
  | 0, _, _ => Nat.zero_le _
  | k + 1, l, h => by
    have hk := h k (by omega)
    have := pigeon k (l.erase (k : Int)) (fun j hj => (List.mem_erase_of_ne (by omega)).2 (h j (by omega)))
    rw [List.length_erase_of_mem hk] at this
    have : 0 < l.length := List.length_pos_of_mem hk
    omega
theorem info5 : (Try.prog.info? 5).map (fun i => (i.zero, i.size, i.bytes)) = some (some (.int .u8 0), 1, 1) := by kernel_rfl
theorem cls_bd {n : Int} (h : okc n = true) : 8 ≤ cls n ∧ cls n ≤ 128 ∧ 1 ≤ n ∧ n ≤ 128 ∧ n ≤ cls n := by
  simp only [okc, Bool.and_eq_true, decide_eq_true_eq] at h
  unfold cls
  repeat split
  all_goals omega
/-- So many bytes, 0 each. -/
def zb (n : Nat) : Obj := .cells ((List.replicate n (0 : UInt8)).map bcell).toArray 5 (0, 0)
set_option maxRecDepth 100000 in
set_option maxHeartbeats 2000000 in
theorem Take_ok (w : World) (s bm : Nat) (room used n : Int) (l : Slots) (h : SlabAt w s bm room used l) (hn : okc n = true) (hr : used + cls n ≤ room) (h0 : 0 ≤ used) (h1 : room ≤ 65536) (hl : l.length ≤ 100000) :
    Calls Try.prog 23 #[.pointer (some ⟨s, 0, none⟩), .int .i64 n] w fun e w' => ∃ (k b : Nat), e = .returned (.tuple #[.int .i64 (k : Int), .int .i64 0]) ∧ (∀ j : Nat, j < k → (j : Int) ∈ l.map (·.1)) ∧ (k : Int) ∉ l.map (·.1) ∧
      SlabAt w' s bm room (used + cls n) (l ++ [((k : Int), (b, List.replicate n.toNat 0))]) ∧ w.heap.size ≤ b ∧ Upd [s, bm] w w' := by
  obtain ⟨b1, b2, b3, b4, b5⟩ := cls_bd hn
  generalize hc : cls n = c at *
  go_enter Try.func23, Try.ntmps23
  go_wp2_with fail
  go_step3
  go_wp2_with fail
  refine (Class_spec n _).mono ?_
  rintro e w1 ⟨rfl, u1⟩
  rw [hc, hn]
  clear hn hc
  have hlen : ∀ (w' : World), MapAt (Value.int .i64) es okI w' bm l → (Builtin.len_ #[116] 3 #[.map (some bm)]).run Try.prog w' = .ok (.int .i64 (l.length : Int)) w' := fun w' hm => hm.len Try.underlying116 3
  have hmk : ∀ w', (Instr.makeSlice 36 (.int .i64 n) (.int .i64 n)).run Try.prog w' = .ok (.slice (some ⟨w'.heap.size, 0, none⟩) n.toNat n.toNat) (w'.alloc (zb n.toNat)) := fun w' => make_bytes Try.underlying36 info5 w' n (by omega) (by omega)
  have e116 := en116
  have c0 := h.c0
  have c1 := h.c1
  have c2 := h.c2
  have hlt := h.lts.1
  have h2 := h.keep u1
  clear c0 c1 c2
  have c0 := h2.c0
  have c1 := h2.c1
  have c2 := h2.c2
  have z3 : decide (room < used + c) = false := decide_eq_false (by omega)
  go_wp2_with fail
  go_quiet (fail)
  have h3 : SlabAt (w1.drewN nq) s bm room used l := h2.keep ((Upd.refl [] w1).drewN nq)
  have U3 : Upd [] w (w1.drewN nq) := u1.drewN nq
  clear c0 c1 c2 h2 u1
  generalize w1.drewN nq = wq at *
  have c0 := h3.c0
  have c1 := h3.c1
  have c2 := h3.c2
  have hm3 := h3.map
  go_wp2_with fail
  go_step3
  go_wp2_with fail
  go_loopg [8, 47] (l.length + 2) (fun kq v8 v47 w' => ∃ k : Nat, v8 = .int .i64 (k : Int) ∧ v47 = .int .i64 (k : Int) ∧ kq + k = l.length + 2 ∧ (∀ j : Nat, j < k → (j : Int) ∈ l.map (·.1)) ∧ w' = wq)
  case atStart => exact ⟨0, rfl, rfl, rfl, fun j hj => absurd hj (by omega), rfl⟩
  case round =>
    obtain ⟨k, rfl, rfl, hk, hp, rfl⟩ := hrel
    have hpk := pigeon k _ hp
    rw [List.length_map] at hpk
    have z4 : decide ((k : Int) < (l.length : Int) + 1) = true := decide_eq_true (by omega)
    have hkI : okI (k : Int) := WalkArith.wf_i64 (by omega)
    cases hg : aget l (k : Int) with
    | some p =>
      obtain ⟨b, bs⟩ := p
      have r1 := look_some h3 hkI hg
      go_wp2_with fail
      go_roundg (gk - 1)
      case measure => omega
      case rel => exact ⟨k + 1, by go_num, by go_num, by omega, fun j hj => by
        rcases Nat.lt_succ_iff_lt_or_eq.1 hj with h' | rfl
        · exact hp j h'
        · exact List.mem_map.2 ⟨_, aget_mem hg, rfl⟩, rfl⟩
    | none =>
      have r1 := look_none h3 hkI hg
      have hnk : (k : Int) ∉ l.map (·.1) := (aget_none_iff l _).1 hg
      go_wp2_with fail
      have hH : MapAt (Value.int .i64) es okI ((wr.alloc (zb n.toNat)).drew) bm l := (hm3.alloc _).drew
      obtain ⟨w2, hrun0, m2, u2, z2⟩ := hH.update ki Try.underlying116 hkI (wr.heap.size, List.replicate n.toNat (0 : UInt8))
      have hrun : (Instr.mapUpdate 116 (.map (some bm)) (.int .i64 (k : Int)) (.slice (some ⟨wr.heap.size, 0, none⟩) n.toNat n.toNat)).run Try.prog ((wr.alloc (zb n.toNat)).drew) = .ok () w2 := by simpa [es] using hrun0
      have hsl := h3.lts.1
      clear hrun0 r1 hH
      have hb2 : w2.heap[s]? = some (.cells #[.int .i64 room, .int .i64 used, .map (some bm)] 118 (0, 0)) := u2.heap (w := (wr.alloc (zb n.toNat)).drew) (heap_alloc_old h3.cells _) (by simpa using h.d)
      have U4 : Upd [s, bm] w w2 := ((((U3.mono (T := [s, bm]) (by simp)).alloc (zb n.toNat)).drew).step u2 (by simp))
      have g0 := cell_of hb2 0
      have g1 := cell_of hb2 1
      have g2 := cell_of hb2 2
      have g3 := frozen_of hb2 1
      simp only [List.getElem?_toArray, List.getElem?_cons_zero, List.getElem?_cons_succ] at g0 g1 g2
      have hnb : BytesAt 5 w2 wr.heap.size (List.replicate n.toNat 0) := BytesAt.kept (w := (wr.alloc (zb n.toNat)).drew) (BytesAt.made wr n.toNat) u2 (by have := h3.lts.2.1; simp; omega)
      have hob : ∀ p ∈ l, BytesAt 5 w2 p.2.1 p.2.2 := fun p hp => BytesAt.kept (w := (wr.alloc (zb n.toNat)).drew) ((h3.bytes p hp).1.kept (((Upd.refl [] wr).alloc (zb n.toNat)).drew) (by simp)) u2 (by have := (h3.bytes p hp).2.2; simpa using this)
      have hbl := h3.lts.2
      rw [aput_new _ hnk] at m2
      have hsz := U3.size
      go_region
      all_goals
        go_wp2_with fail
        rw [Exit.noGoto_ret]
        go_ret2
        have X := (Upd.refl [s] w2).setCell ⟨s, 1, none⟩ (Value.int .i64 (used + c)) (.inl (by simp))
        refine ⟨k, wr.heap.size, rfl, hp, hnk, ⟨?_, m2.kept X (by simpa using Ne.symm h.d), ?_, ?_, h.d⟩, hsz, U4.step X (by simp)⟩
        · exact heap_setCell_same hb2 1 _
        · intro p hp'
          rcases List.mem_append.1 hp' with hp' | hp'
          · exact ⟨(hob p hp').kept X (by simpa using (h3.bytes p hp').2.1), (h3.bytes p hp').2⟩
          · obtain rfl := List.mem_singleton.1 hp'
            exact ⟨hnb.kept X (by simp; omega), by simp; omega, by simp; omega⟩
        · rw [List.map_append, List.nodup_append]
          refine ⟨h3.apart, by simp, fun a ha b hb => ?_⟩
          obtain ⟨p, hp', rfl⟩ := List.mem_map.1 ha
          simp at hb
          have := hbl.2 p hp'
          omega
set_option maxRecDepth 100000 in
set_option maxHeartbeats 1000000 in
theorem of_none (w : World) (s bm : Nat) (room used : Int) (l : Slots) (slot at_ n : Int) (h : SlabAt w s bm room used l) (hs : okI slot) (hn : aget l slot = none) :
    Calls Try.prog 65 #[.pointer (some ⟨s, 0, none⟩), .int .i64 slot, .int .i64 at_, .int .i64 n] w fun e w' => e = .returned (.tuple #[.slice none 0 0, .int .i64 5]) ∧ w = w' := by
  have e116 := en116
  have c2 := h.c2
  have r1 := look_none h hs hn
  go_enter Try.func65, Try.ntmps65
  go_wp2
  go_ret2
  exact ⟨rfl, rfl⟩
/-- Are these bytes within? -/
def fits (len : Nat) (at_ n : Int) : Prop := 0 ≤ at_ ∧ 0 ≤ n ∧ at_ ≤ len ∧ n ≤ len - at_
instance (len : Nat) (at_ n : Int) : Decidable (fits len at_ n) := by unfold fits; infer_instance
set_option maxRecDepth 100000 in
set_option maxHeartbeats 1000000 in
theorem of_bad (w : World) (s bm : Nat) (room used : Int) (l : Slots) (slot at_ n : Int) (h : SlabAt w s bm room used l) (hs : okI slot) (b : Nat) (bs : List UInt8) (hn : aget l slot = some (b, bs)) (hl : bs.length ≤ 1000) (hf : ¬ fits bs.length at_ n) (ha : okI at_) (hn' : okI n) :
    Calls Try.prog 65 #[.pointer (some ⟨s, 0, none⟩), .int .i64 slot, .int .i64 at_, .int .i64 n] w fun e w' => e = .returned (.tuple #[.slice none 0 0, .int .i64 120]) ∧ w = w' := by
  have e116 := en116
  have c2 := h.c2
  have r1 := look_some h hs hn
  unfold fits at hf
  by_cases h1 : at_ < 0
  · have z1 : decide (at_ < 0) = true := decide_eq_true h1
    go_enter Try.func65, Try.ntmps65
    go_wp2
    go_ret2
    exact ⟨rfl, rfl⟩
  have z1 : decide (at_ < 0) = false := decide_eq_false h1
  by_cases h2 : n < 0
  · have z2 : decide (n < 0) = true := decide_eq_true h2
    go_enter Try.func65, Try.ntmps65
    go_wp2
    go_ret2
    exact ⟨rfl, rfl⟩
  have z2 : decide (n < 0) = false := decide_eq_false h2
  by_cases h3 : (bs.length : Int) < at_
  · have z3 : decide ((bs.length : Int) < at_) = true := decide_eq_true h3
    go_enter Try.func65, Try.ntmps65
    go_wp2
    go_ret2
    exact ⟨rfl, rfl⟩
  have z3 : decide ((bs.length : Int) < at_) = false := decide_eq_false h3
  have z4 : decide ((bs.length : Int) - at_ < n) = true := decide_eq_true (by omega)
  clear hf
  go_enter Try.func65, Try.ntmps65
  go_wp2
  go_ret2
  exact ⟨rfl, rfl⟩
set_option maxRecDepth 100000 in
set_option maxHeartbeats 1000000 in
theorem of_ok (w : World) (s bm : Nat) (room used : Int) (l : Slots) (slot : Int) (at_ n : Nat) (h : SlabAt w s bm room used l) (hs : okI slot) (b : Nat) (bs : List UInt8) (hn : aget l slot = some (b, bs)) (hl : bs.length ≤ 1000) (hf : at_ + n ≤ bs.length) :
    Calls Try.prog 65 #[.pointer (some ⟨s, 0, none⟩), .int .i64 slot, .int .i64 (at_ : Int), .int .i64 (n : Int)] w fun e w' => e = .returned (.tuple #[.slice (some ⟨b, if at_ = bs.length then 0 else at_, none⟩) n (bs.length - at_), .int .i64 0]) ∧ w = w' := by
  have e116 := en116
  have c2 := h.c2
  have r1 := look_some h hs hn
  have z1 : decide ((at_ : Int) < 0) = false := decide_eq_false (by omega)
  have z2 : decide ((n : Int) < 0) = false := decide_eq_false (by omega)
  have z3 : decide ((bs.length : Int) < (at_ : Int)) = false := decide_eq_false (by omega)
  have z4 : decide ((bs.length : Int) - (at_ : Int) < (n : Int)) = false := decide_eq_false (by omega)
  by_cases he : at_ = bs.length
  · subst he
    obtain rfl : n = 0 := by omega
    rw [if_pos rfl]
    go_enter Try.func65, Try.ntmps65
    go_wp2
    go_ret2
    refine ⟨?_, rfl⟩
    show Ending.returned (.tuple #[.slice (some ⟨b, 0, none⟩) 0 0, .int .i64 0]) = _
    rw [Nat.sub_self]
  · rw [if_neg he]
    have z5 : decide (bs.length = at_) = false := decide_eq_false (by omega)
    have z6 : ¬ bs.length = at_ := by omega
    go_enter Try.func65, Try.ntmps65
    go_wp2
    go_ret2
    refine ⟨?_, rfl⟩
    show Ending.returned (.tuple #[.slice (some ⟨b, at_, none⟩) (at_ + n - at_) (bs.length - at_), .int .i64 0]) = _
    rw [Nat.add_sub_cancel_left]
theorem conv_nil (w : World) : (convert 36 9 (.slice none 0 0)).run Try.prog w = .ok (.string ByteArray.empty) w := run_convert_bytes_nil w 36 5 Try.underlying36 Try.underlying5 0 0 9 Try.underlying9
/-! ### Read -/
set_option maxRecDepth 100000 in
set_option maxHeartbeats 1000000 in
theorem Read_no (w : World) (s bm : Nat) (room used : Int) (l : Slots) (slot at_ n r : Int) (h : SlabAt w s bm room used l) (hs : okI slot) (ha : okI at_) (hn : okI n) (hl : ∀ p ∈ l, p.2.2.length ≤ 1000)
    (hr : (aget l slot = none ∧ r = 5) ∨ ∃ b bs, aget l slot = some (b, bs) ∧ ¬ fits bs.length at_ n ∧ r = 120) :
    Calls Try.prog 26 #[.pointer (some ⟨s, 0, none⟩), .int .i64 slot, .int .i64 at_, .int .i64 n] w fun e w' => e = .returned (.tuple #[.string ByteArray.empty, .int .i64 r]) ∧ w = w' := by
  have hof : Calls Try.prog 65 #[.pointer (some ⟨s, 0, none⟩), .int .i64 slot, .int .i64 at_, .int .i64 n] w fun e w' => e = .returned (.tuple #[.slice none 0 0, .int .i64 r]) ∧ w = w' := by
    rcases hr with ⟨h1, rfl⟩ | ⟨b, bs, h1, h2, rfl⟩
    · exact of_none w s bm room used l slot at_ n h hs h1
    · exact of_bad w s bm room used l slot at_ n h hs b bs h1 (hl _ (aget_mem h1)) h2 ha hn
  have hcv := conv_nil
  clear hr
  go_enter Try.func26, Try.ntmps26
  go_wp2_with (go_at_call 65; (with_reducible refine hof.mono ?_); rintro e w1 ⟨rfl, rfl⟩)
  go_ret2
  exact ⟨rfl, rfl⟩
set_option maxRecDepth 100000 in
set_option maxHeartbeats 1000000 in
theorem Read_ok (w : World) (s bm : Nat) (room used : Int) (l : Slots) (slot : Int) (at_ n : Nat) (h : SlabAt w s bm room used l) (hs : okI slot) (b : Nat) (bs : List UInt8) (hg : aget l slot = some (b, bs)) (hl : bs.length ≤ 1000) (hf : at_ + n ≤ bs.length) :
    Calls Try.prog 26 #[.pointer (some ⟨s, 0, none⟩), .int .i64 slot, .int .i64 (at_ : Int), .int .i64 (n : Int)] w fun e w' => e = .returned (.tuple #[.string (bstr ((bs.drop at_).take n)), .int .i64 0]) ∧ w = w' := by
  have hb := (h.bytes _ (aget_mem hg)).1
  have hcv : (convert 36 9 (.slice (some ⟨b, if at_ = bs.length then 0 else at_, none⟩) n (bs.length - at_))).run Try.prog w = .ok (.string (bstr ((bs.drop at_).take n))) w := by
    split
    · rename_i he
      subst he
      obtain rfl : n = 0 := by omega
      have := hb.conv (P := Try.prog) Try.underlying36 Try.underlying5 Try.underlying9 0 0 (bs.length - bs.length) (by omega)
      simpa using this
    · exact hb.conv Try.underlying36 Try.underlying5 Try.underlying9 at_ n _ hf
  have hof := of_ok w s bm room used l slot at_ n h hs b bs hg hl hf
  generalize (if at_ = bs.length then 0 else at_) = o at hcv hof
  generalize bstr ((bs.drop at_).take n) = S at hcv ⊢
  clear hb
  go_enter Try.func26, Try.ntmps26
  go_wp2_with (go_at_call 65; (with_reducible refine hof.mono ?_); rintro e w1 ⟨rfl, rfl⟩)
  go_ret2
  exact ⟨rfl, rfl⟩
/-! ### Write -/
theorem copy_nil (t : ByteArray) (w : World) : (Builtin.copy_ #[36, 9] 3 #[.slice none 0 0, .string t]).run Try.prog w = .ok (.int .i64 0) w := by
  have hi := info5
  cases hq : Try.prog.info? 5 with
  | none => rw [hq] at hi; cases hi
  | some i => simp [Builtin.copy_, run_underlying Try.underlying36, Builtin.lenOf, Builtin.firstCells, sizeOf, typeInfo, hq, goInt]
set_option maxRecDepth 100000 in
set_option maxHeartbeats 1000000 in
theorem Write_no (w : World) (s bm : Nat) (room used : Int) (l : Slots) (slot at_ r : Int) (t : ByteArray) (h : SlabAt w s bm room used l) (hs : okI slot) (ha : okI at_) (hn : okI t.size) (hl : ∀ p ∈ l, p.2.2.length ≤ 1000)
    (hr : (aget l slot = none ∧ r = 5) ∨ ∃ b bs, aget l slot = some (b, bs) ∧ ¬ fits bs.length at_ t.size ∧ r = 120) :
    Calls Try.prog 24 #[.pointer (some ⟨s, 0, none⟩), .int .i64 slot, .int .i64 at_, .string t] w fun e w' => e = .returned (.int .i64 r) ∧ w = w' := by
  have hof : Calls Try.prog 65 #[.pointer (some ⟨s, 0, none⟩), .int .i64 slot, .int .i64 at_, .int .i64 (t.size : Int)] w fun e w' => e = .returned (.tuple #[.slice none 0 0, .int .i64 r]) ∧ w = w' := by
    rcases hr with ⟨h1, rfl⟩ | ⟨b, bs, h1, h2, rfl⟩
    · exact of_none w s bm room used l slot at_ _ h hs h1
    · exact of_bad w s bm room used l slot at_ _ h hs b bs h1 (hl _ (aget_mem h1)) h2 ha hn
  have hcv := copy_nil t
  clear hr
  go_enter Try.func24, Try.ntmps24
  go_wp2_with (go_at_call 65; (with_reducible refine hof.mono ?_); rintro e w1 ⟨rfl, rfl⟩)
  go_ret
  exact ⟨rfl, rfl⟩
set_option maxRecDepth 100000 in
set_option maxHeartbeats 1000000 in
theorem Write_ok (w : World) (s bm : Nat) (room used : Int) (l : Slots) (slot : Int) (at_ : Nat) (t : ByteArray) (h : SlabAt w s bm room used l) (hs : okI slot) (b : Nat) (bs : List UInt8) (hg : aget l slot = some (b, bs)) (hl : bs.length ≤ 1000) (hf : at_ + t.size ≤ bs.length) :
    Calls Try.prog 24 #[.pointer (some ⟨s, 0, none⟩), .int .i64 slot, .int .i64 (at_ : Int), .string t] w fun e w' => e = .returned (.int .i64 0) ∧ SlabAt w' s bm room used (aput l slot (b, over bs at_ t.data.toList)) ∧ Upd [b] w w' := by
  have hb := (h.bytes _ (aget_mem hg)).1
  have htl : t.data.toList.length = t.size := rfl
  obtain ⟨w2, hcv, hb2, u2, z2⟩ : ∃ w', (Builtin.copy_ #[36, 9] 3 #[.slice (some ⟨b, if at_ = bs.length then 0 else at_, none⟩) t.size (bs.length - at_), .string t]).run Try.prog w = .ok (.int .i64 (t.size : Int)) w' ∧ BytesAt 5 w' b (over bs at_ t.data.toList) ∧ Upd [b] w w' ∧ w'.heap.size = w.heap.size := by
    have hi : (Try.prog.info? 5).map (·.size) = some 1 := by kernel_rfl
    split
    · rename_i he
      subst he
      have h0 : t.size = 0 := by omega
      obtain ⟨w', q1, q2, q3, q4⟩ := hb.copy (P := Try.prog) (sT := 9) Try.underlying36 hi 3 0 t.size (bs.length - bs.length) t (Nat.le_refl _) (by omega)
      refine ⟨w', q1, ?_, q3, q4⟩
      have e1 : t.data.toList = [] := List.eq_nil_of_length_eq_zero (by rw [htl, h0])
      rw [e1] at q2 ⊢
      simpa [over] using q2
    · exact hb.copy Try.underlying36 hi 3 at_ t.size _ t (Nat.le_refl _) hf
  have hof := of_ok w s bm room used l slot at_ t.size h hs b bs hg hl hf
  generalize (if at_ = bs.length then 0 else at_) = o at hcv hof
  have hbs := (h.bytes _ (aget_mem hg)).2
  have hnd := h.map.nodup ki
  have hS : SlabAt w2 s bm room used (aput l slot (b, over bs at_ t.data.toList)) := by
    refine ⟨u2.heap h.cells (by simpa using Ne.symm hbs.1), (h.map.kept u2 (by simpa using Ne.symm hbs.2)).same_ev hg (by simp [es, over_length bs at_ t.data.toList (by omega)]), fun p hp => ?_, ?_, h.d⟩
    · rcases mem_aput_ne hnd hp with rfl | ⟨hp, hne⟩
      · exact ⟨hb2, hbs⟩
      · refine ⟨(h.bytes p hp).1.kept u2 ?_, (h.bytes p hp).2⟩
        simp only [List.mem_singleton]
        exact fun e => hne (congrArg Prod.fst (inj_of_nodup h.apart hp (aget_mem hg) e))
    · rw [aput_map_eq (v' := (b, over bs at_ t.data.toList)) hg (fun p => p.2.1) rfl]; exact h.apart
  clear hb hb2 hbs hnd z2
  go_enter Try.func24, Try.ntmps24
  go_wp2_with (go_at_call 65; (with_reducible refine hof.mono ?_); rintro e w1 ⟨rfl, rfl⟩)
  go_ret
  exact ⟨rfl, hS, u2⟩
theorem fill_step (n k : Nat) (c : UInt8) (h : k < n) : (List.replicate k c ++ List.replicate (n - k) 0).set k c = List.replicate (k + 1) c ++ List.replicate (n - (k + 1)) 0 := by
  obtain ⟨m, hm⟩ : ∃ m, n - k = m + 1 := ⟨n - k - 1, by omega⟩
  have hm' : n - (k + 1) = m := by omega
  rw [hm, hm', List.replicate_succ, List.replicate_succ', List.set_append_right _ _ (by simp), List.append_assoc]
  simp
set_option maxRecDepth 100000 in
set_option maxHeartbeats 1000000 in
theorem fill_spec (w : World) (n : Nat) (c : UInt8) (hn : n ≤ 1000) : Calls Try.prog 25 #[.int .i64 (n : Int), .int .u8 (c.toNat : Int)] w fun e w' => ∃ b, e = .returned (.slice (some ⟨b, 0, none⟩) n n) ∧ BytesAt 5 w' b (List.replicate n c) ∧ w.heap.size ≤ b ∧ Upd [] w w' := by
  have hmk : ∀ w', (Instr.makeSlice 36 (.int .i64 (n : Int)) (.int .i64 (n : Int))).run Try.prog w' = .ok (.slice (some ⟨w'.heap.size, 0, none⟩) n n) (w'.alloc (zb n)) := fun w' => make_bytes Try.underlying36 info5 w' n (by omega) (by omega)
  go_enter Try.func25, Try.ntmps25
  go_wp2_with fail
  have h0 : BytesAt 5 (w.alloc (zb n)) w.heap.size (List.replicate 0 c ++ List.replicate (n - 0) 0) := by
    simp only [List.replicate_zero, List.nil_append, Nat.sub_zero]
    exact BytesAt.made w n
  have U0 := (Upd.refl [] w).alloc (zb n)
  clear hmk
  generalize hw1 : w.alloc (zb n) = w1 at *
  clear hw1
  obtain ⟨g, hg⟩ : ∃ g, g = w.heap.size := ⟨_, rfl⟩
  rw [← hg] at h0 ⊢
  have hge : w.heap.size ≤ g := by omega
  clear hg
  go_loopg [6] n (fun kq v6 w' => ∃ k : Nat, v6 = .int .i64 (k : Int) ∧ kq + k = n ∧ BytesAt 5 w' g (List.replicate k c ++ List.replicate (n - k) 0) ∧ Upd [] w w')
  case atStart => exact ⟨0, rfl, rfl, h0, U0⟩
  case round =>
    clear h0 U0
    obtain ⟨k, rfl, hk, hB, hU⟩ := hrel
    by_cases hkn : k < n
    · have z1 : decide ((k : Int) < (n : Int)) = true := decide_eq_true (by omega)
      have q0 : wr.cell? ⟨g, k, none⟩ = some (bcell 0) := by
        rw [hB.cell]
        rw [List.getElem?_append_right (by simp), List.getElem?_replicate, if_pos (by simp; omega)]
        rfl
      have f0 := hB.frozen k
      have hS := hB.set k c
      rw [fill_step n k c hkn] at hS
      go_wp2_with fail
      go_roundg (gk - 1)
      case measure => omega
      case rel => exact ⟨k + 1, by go_num, by omega, hS, hU.setCell _ _ (.inr hge)⟩
    · have z1 : decide ((k : Int) < (n : Int)) = false := decide_eq_false (by omega)
      obtain rfl : k = n := by omega
      go_wp2_with fail
      go_ret
      exact ⟨g, rfl, by simpa using hB, hge, hU⟩
end Go.Proofs.Ytgleceijdedlkaa
