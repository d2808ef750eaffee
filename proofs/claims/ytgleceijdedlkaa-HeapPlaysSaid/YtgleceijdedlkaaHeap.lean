/- The heap of objects: what New, of, Make, Hold, Drop, Free, Kind, Count, Read, Write, Used, Room do to memory. -/
import Derived.Test.YtgleceijdedlkaaHandle
import Derived.Test.YtgleceijdedlkaaSlab2
import Derived.DeepKeys5
import Derived.RegionCalls
import Derived.Deep.RegionWith
namespace Go.Proofs.Ytgleceijdedlkaa
open Go.RowKit
set_option linter.unusedVariables false
set_option linter.unusedSimpArgs false
theorem laidOutK : laidOutB Try.prog = true := by kernel_rfl
theorem law30 : Maps.Keyed Try.prog 30 := Maps.Keyed.of_law (deep_law_gate laidOutK (of_decide_eq_true (by kernel_rfl)) (of_decide_eq_true (by kernel_rfl)) (by kernel_rfl) (by kernel_rfl))
def okH (p : Int × Int) : Prop := (Lit.int .i64 p.1).wf = true ∧ (Lit.int .u64 p.2).wf = true
theorem key30 (a b : Int) (ha : (Lit.int .i64 a).wf = true) (hb : (Lit.int .u64 b).wf = true) : ∃ l, keyOf Try.prog 30 (.agg #[.int .i64 a, .int .u64 b]) = some l := by
  have hk : Try.prog.keyType 30 = true := by kernel_rfl
  have c30 : Try.prog.cellsOf 30 = 2 := by kernel_rfl
  have c3 : Try.prog.cellsOf 3 = 1 := by kernel_rfl
  have c26 : Try.prog.cellsOf 26 = 1 := by kernel_rfl
  have h0 : Try.prog.types.size ≠ 0 := of_decide_eq_true (by kernel_rfl)
  obtain ⟨d, hd⟩ := Nat.exists_eq_succ_of_ne_zero h0
  unfold keyOf
  rw [Try.underlying30]
  simp only [hk, Bool.true_and, hd]
  have hf : Value.formed Try.prog 30 (.agg #[.int .i64 a, .int .u64 b]) = true := by simp [Value.formed, Try.underlying30, c30]
  rw [if_pos hf]
  simp [Program.keyLits, Try.underlying30, Try.underlying3, Try.underlying26, c30, c3, c26, Value.cells, ha, hb]
theorem kh : Kops Try.prog 30 eh okH := Kops.of law30 (fun x y h => by unfold eh at h; simp at h; exact Prod.ext h.1 h.2) (fun x hx => key30 x.1 x.2 hx.1 hx.2)
/-- An object's pointer. -/
def eo (p : Nat × (Int × Int)) : Value := .pointer (some ⟨p.1, 0, none⟩)
abbrev Objs := List ((Int × Int) × (Nat × (Int × Int)))
abbrev Lasts := List (Int × Int)
abbrev Lives := List (Int × (Int × Int))
/-- A heap's blocks. -/
structure HB where
  x : Nat
  s : Nat
  bm : Nat
  t : Nat
  bl : Nat
  bv : Nat
  bo : Nat
structure HeapAt (w : World) (B : HB) (room used : Int) (l : Slots) (L : Lasts) (V : Lives) (O : Objs) : Prop where
  cells : w.heap[B.x]? = some (.cells #[.pointer (some ⟨B.s, 0, none⟩), .pointer (some ⟨B.t, 0, none⟩), .map (some B.bo)] 124 (0, 0))
  slab : SlabAt w B.s B.bm room used l
  tab : TableAt w B.t B.bl B.bv L V
  map : MapAt eh eo okH w B.bo O
  objs : ∀ q ∈ O, w.heap[q.2.1]? = some (.cells #[.int .i64 q.2.2.1, .int .i64 q.2.2.2] 129 (0, 0))
  fx : B.x ≠ B.s ∧ B.x ≠ B.bm ∧ B.x ≠ B.t ∧ B.x ≠ B.bl ∧ B.x ≠ B.bv ∧ B.x ≠ B.bo
  fs : B.s ≠ B.t ∧ B.s ≠ B.bl ∧ B.s ≠ B.bv ∧ B.s ≠ B.bo ∧ B.bm ≠ B.t ∧ B.bm ≠ B.bl ∧ B.bm ≠ B.bv ∧ B.bm ≠ B.bo
  ft : B.t ≠ B.bo ∧ B.bl ≠ B.bo ∧ B.bv ≠ B.bo
  sl : ∀ p ∈ l, p.2.1 ≠ B.x ∧ p.2.1 ≠ B.t ∧ p.2.1 ≠ B.bl ∧ p.2.1 ≠ B.bv ∧ p.2.1 ≠ B.bo
  so : ∀ q ∈ O, q.2.1 ≠ B.x ∧ q.2.1 ≠ B.s ∧ q.2.1 ≠ B.bm ∧ q.2.1 ≠ B.t ∧ q.2.1 ≠ B.bl ∧ q.2.1 ≠ B.bv ∧ q.2.1 ≠ B.bo
  slo : ∀ p ∈ l, ∀ q ∈ O, p.2.1 ≠ q.2.1
  oap : (O.map (·.2.1)).Nodup
  inv1 : ∀ s, (aget V s).isSome = (aget l s).isSome
  inv2 : ∀ h, (aget O h).isSome = true ↔ aget V h.1 = some h
/-- All of a heap's blocks. -/
def HB.all (B : HB) (l : Slots) (O : Objs) : List Nat := [B.x, B.s, B.bm, B.t, B.bl, B.bv, B.bo] ++ (l.map (·.2.1) ++ O.map (·.2.1))
theorem HeapAt.kept {S : List Nat} {w w' : World} {B : HB} {room used : Int} {l : Slots} {L : Lasts} {V : Lives} {O : Objs} (h : HeapAt w B room used l L V O) (u : Upd S w w') (hS : ∀ b ∈ S, b ∉ B.all l O) : HeapAt w' B room used l L V O := by
  have hn : ∀ b, b ∈ B.all l O → b ∉ S := fun b hb hs => hS b hs hb
  have hf : ∀ b ∈ [B.x, B.s, B.bm, B.t, B.bl, B.bv, B.bo], b ∉ S := fun b hb => hn b (List.mem_append_left _ hb)
  have hl : ∀ p ∈ l, p.2.1 ∉ S := fun p hp => hn _ (List.mem_append_right _ (List.mem_append_left _ (List.mem_map.2 ⟨p, hp, rfl⟩)))
  have ho : ∀ q ∈ O, q.2.1 ∉ S := fun p hp => hn _ (List.mem_append_right _ (List.mem_append_right _ (List.mem_map.2 ⟨p, hp, rfl⟩)))
  exact { h with
    cells := u.heap h.cells (hf _ (by simp))
    slab := h.slab.kept u (hf _ (by simp)) (hf _ (by simp)) hl
    tab := h.tab.kept u (hf _ (by simp)) (hf _ (by simp)) (hf _ (by simp))
    map := h.map.kept u (hf _ (by simp))
    objs := fun q hq => u.heap (h.objs q hq) (ho q hq) }
theorem HeapAt.keep {w w' : World} {B : HB} {room used : Int} {l : Slots} {L : Lasts} {V : Lives} {O : Objs} (h : HeapAt w B room used l L V O) (u : Upd [] w w') : HeapAt w' B room used l L V O := h.kept u (by simp)
theorem HeapAt.lts {w : World} {B : HB} {room used : Int} {l : Slots} {L : Lasts} {V : Lives} {O : Objs} (h : HeapAt w B room used l L V O) : ∀ b ∈ B.all l O, b < w.heap.size := by
  intro b hb
  unfold HB.all at hb
  rcases List.mem_append.1 hb with hb | hb
  · simp only [List.mem_cons, List.not_mem_nil, or_false] at hb
    have h1 := lt_of_heap h.cells
    have h2 := h.slab.lts
    have h3 := h.tab.lts
    have h4 := h.map.lt
    omega
  · rcases List.mem_append.1 hb with hb | hb
    · obtain ⟨p, hp, rfl⟩ := List.mem_map.1 hb
      exact h.slab.lts.2.2 p hp
    · obtain ⟨p, hp, rfl⟩ := List.mem_map.1 hb
      exact lt_of_heap (h.objs p hp)
theorem en122 (w : World) (r : Nat) : (binOp .eql 122 (.map (some r)) (.map none)).run Try.prog w = .ok (.bool false) w := run_eql_map_nil w 122 _ _ (some r) Try.underlying122
theorem zero125 (w : World) : (zeroValue 125).run Try.prog w = .ok (.pointer none) w := by kernel_rfl
/-! ### of -/
theorem zero_eo : (Value.pointer none) = Value.pointer none := rfl
def Obj2 (a b : Int) : Obj := .cells #[.int .i64 a, .int .u64 b] 30 (0, 0)
theorem look122 {w : World} {B : HB} {room used : Int} {l : Slots} {L : Lasts} {V : Lives} {O : Objs} (h : HeapAt w B room used l L V O) (a b : Int) (hk : okH (a, b)) (o : Obj) (n : Nat) :
    (Instr.lookup 122 (.map (some B.bo)) (.agg #[.int .i64 a, .int .u64 b]) false).run Try.prog ((w.alloc o).drewN n) = .ok (.pointer ((aget O (a, b)).map fun p => ⟨p.1, 0, none⟩)) ((w.alloc o).drewN n) := by
  have := ((h.map.alloc o).drewN n).lookup kh Try.underlying122 (zero125 _) hk false
  rw [show Value.agg #[.int .i64 a, .int .u64 b] = eh (a, b) from rfl, this]
  unfold lookV
  cases aget O (a, b) <;> rfl
set_option maxRecDepth 100000 in
set_option maxHeartbeats 1000000 in
theorem hof_ok (w : World) (B : HB) (room used : Int) (l : Slots) (L : Lasts) (V : Lives) (O : Objs) (a b : Int) (h : HeapAt w B room used l L V O) (hk : okH (a, b)) (p : Nat) (c k : Int) (hg : aget O (a, b) = some (p, (c, k))) :
    Calls Try.prog 66 #[.pointer (some ⟨B.x, 0, none⟩), .agg #[.int .i64 a, .int .u64 b]] w fun e w' => e = .returned (.tuple #[.pointer (some ⟨p, 0, none⟩), .int .i64 0]) ∧ Upd [] w w' := by
  have e122 := en122
  have c2 : w.cell? ⟨B.x, 2, none⟩ = some (.map (some B.bo)) := cell_of h.cells 2
  have lt := lt_of_heap h.cells
  have r1 := look122 h a b hk (.cells #[.int .i64 a, .int .u64 b] 30 (0, 0))
  rw [hg] at r1
  simp only [Option.map_some] at r1
  go_enter Try.func66, Try.ntmps66
  go_wp2
  go_quiet (fail)
  go_wp2
  go_quiet (fail)
  go_wp2
  go_ret2
  exact ⟨rfl, ((((Upd.refl [] w).alloc _).drewN _).drewN _)⟩
set_option maxRecDepth 100000 in
set_option maxHeartbeats 1000000 in
theorem hof_stale (w : World) (B : HB) (room used : Int) (l : Slots) (L : Lasts) (V : Lives) (O : Objs) (a b : Int) (h : HeapAt w B room used l L V O) (hk : okH (a, b)) (hg : aget O (a, b) = none) :
    Calls Try.prog 66 #[.pointer (some ⟨B.x, 0, none⟩), .agg #[.int .i64 a, .int .u64 b]] w fun e w' => e = .returned (.tuple #[.pointer none, .int .i64 130]) ∧ Upd [] w w' := by
  have e122 := en122
  have c2 : w.cell? ⟨B.x, 2, none⟩ = some (.map (some B.bo)) := cell_of h.cells 2
  have lt := lt_of_heap h.cells
  have r1 := look122 h a b hk (.cells #[.int .i64 a, .int .u64 b] 30 (0, 0))
  rw [hg] at r1
  simp only [Option.map_none] at r1
  go_enter Try.func66, Try.ntmps66
  go_wp2
  go_quiet (fail)
  go_wp2
  go_ret2
  exact ⟨rfl, (((Upd.refl [] w).alloc _).drewN _)⟩
/-! ### Kind, Count, Hold, Drop -/
theorem HeapAt.obj {w : World} {B : HB} {room used : Int} {l : Slots} {L : Lasts} {V : Lives} {O : Objs} (h : HeapAt w B room used l L V O) {a b : Int} {p : Nat} {c k : Int} (hg : aget O (a, b) = some (p, (c, k))) :
    w.heap[p]? = some (.cells #[.int .i64 c, .int .i64 k] 129 (0, 0)) := h.objs _ (aget_mem hg)
set_option maxRecDepth 100000 in
set_option maxHeartbeats 1000000 in
theorem Kind_ok (w : World) (B : HB) (room used : Int) (l : Slots) (L : Lasts) (V : Lives) (O : Objs) (a b : Int) (h : HeapAt w B room used l L V O) (hk : okH (a, b)) (p : Nat) (c k : Int) (hg : aget O (a, b) = some (p, (c, k))) :
    Calls Try.prog 35 #[.pointer (some ⟨B.x, 0, none⟩), .agg #[.int .i64 a, .int .u64 b]] w fun e w' => e = .returned (.tuple #[.int .i64 k, .bool true]) ∧ Upd [] w w' := by
  go_enter Try.func35, Try.ntmps35
  go_wp2_with fail
  refine (hof_ok _ B room used l L V O a b (h.keep ((Upd.refl [] w).alloc _)) hk p c k hg).mono ?_
  rintro e w1 ⟨rfl, u1⟩
  have h1 := (h.keep ((Upd.refl [] w).alloc _)).keep u1
  have q1 := cell_of (h1.obj hg) 1
  simp only [List.getElem?_toArray, List.getElem?_cons_zero, List.getElem?_cons_succ] at q1
  go_wp2_with fail
  go_ret2
  exact ⟨rfl, ((Upd.refl [] w).alloc _).trans u1⟩
set_option maxRecDepth 100000 in
set_option maxHeartbeats 1000000 in
theorem Kind_no (w : World) (B : HB) (room used : Int) (l : Slots) (L : Lasts) (V : Lives) (O : Objs) (a b : Int) (h : HeapAt w B room used l L V O) (hk : okH (a, b)) (hg : aget O (a, b) = none) :
    Calls Try.prog 35 #[.pointer (some ⟨B.x, 0, none⟩), .agg #[.int .i64 a, .int .u64 b]] w fun e w' => e = .returned (.tuple #[.int .i64 0, .bool false]) ∧ Upd [] w w' := by
  go_enter Try.func35, Try.ntmps35
  go_wp2_with fail
  refine (hof_stale _ B room used l L V O a b (h.keep ((Upd.refl [] w).alloc _)) hk hg).mono ?_
  rintro e w1 ⟨rfl, u1⟩
  go_wp2_with fail
  go_ret2
  exact ⟨rfl, ((Upd.refl [] w).alloc _).trans u1⟩
set_option maxRecDepth 100000 in
set_option maxHeartbeats 1000000 in
theorem Count_ok (w : World) (B : HB) (room used : Int) (l : Slots) (L : Lasts) (V : Lives) (O : Objs) (a b : Int) (h : HeapAt w B room used l L V O) (hk : okH (a, b)) (p : Nat) (c k : Int) (hg : aget O (a, b) = some (p, (c, k))) :
    Calls Try.prog 41 #[.pointer (some ⟨B.x, 0, none⟩), .agg #[.int .i64 a, .int .u64 b]] w fun e w' => e = .returned (.tuple #[.int .i64 c, .bool true]) ∧ Upd [] w w' := by
  go_enter Try.func41, Try.ntmps41
  go_wp2_with fail
  refine (hof_ok _ B room used l L V O a b (h.keep ((Upd.refl [] w).alloc _)) hk p c k hg).mono ?_
  rintro e w1 ⟨rfl, u1⟩
  have h1 := (h.keep ((Upd.refl [] w).alloc _)).keep u1
  have q1 := cell_of (h1.obj hg) 0
  simp only [List.getElem?_toArray, List.getElem?_cons_zero, List.getElem?_cons_succ] at q1
  go_wp2_with fail
  go_ret2
  exact ⟨rfl, ((Upd.refl [] w).alloc _).trans u1⟩
set_option maxRecDepth 100000 in
set_option maxHeartbeats 1000000 in
theorem Count_no (w : World) (B : HB) (room used : Int) (l : Slots) (L : Lasts) (V : Lives) (O : Objs) (a b : Int) (h : HeapAt w B room used l L V O) (hk : okH (a, b)) (hg : aget O (a, b) = none) :
    Calls Try.prog 41 #[.pointer (some ⟨B.x, 0, none⟩), .agg #[.int .i64 a, .int .u64 b]] w fun e w' => e = .returned (.tuple #[.int .i64 0, .bool false]) ∧ Upd [] w w' := by
  go_enter Try.func41, Try.ntmps41
  go_wp2_with fail
  refine (hof_stale _ B room used l L V O a b (h.keep ((Upd.refl [] w).alloc _)) hk hg).mono ?_
  rintro e w1 ⟨rfl, u1⟩
  go_wp2_with fail
  go_ret2
  exact ⟨rfl, ((Upd.refl [] w).alloc _).trans u1⟩
/-- An object's count is written. -/
theorem HeapAt.setCount {w : World} {B : HB} {room used : Int} {l : Slots} {L : Lasts} {V : Lives} {O : Objs} (h : HeapAt w B room used l L V O) {a b : Int} {p : Nat} {c k : Int} (hg : aget O (a, b) = some (p, (c, k))) (d : Int) :
    HeapAt (w.setCell ⟨p, 0, none⟩ (.int .i64 d)) B room used l L V (aput O (a, b) (p, (d, k))) := by
  have X := (Upd.refl [p] w).setCell ⟨p, 0, none⟩ (Value.int .i64 d) (.inl (by simp))
  have hso := h.so _ (aget_mem hg)
  simp only at hso
  have hnd := h.map.nodup kh
  refine { h with
    cells := X.heap h.cells (by simp; omega)
    slab := h.slab.kept X (by simp; omega) (by simp; omega) (fun q hq => by have := h.slo q hq _ (aget_mem hg); simpa using this)
    tab := h.tab.kept X (by simp; omega) (by simp; omega) (by simp; omega)
    map := (h.map.kept X (by simp; omega)).same_ev hg rfl
    objs := fun q hq => ?_, so := fun q hq => ?_, slo := fun r hr q hq => ?_, oap := ?_, inv2 := fun hh => ?_ }
  · rcases mem_aput_ne hnd hq with rfl | ⟨hq, hne⟩
    · exact heap_setCell_same (h.obj hg) 0 _
    · refine X.heap (h.objs q hq) ?_
      simp only [List.mem_singleton]
      exact fun e => hne (congrArg Prod.fst (inj_of_nodup h.oap hq (aget_mem hg) e))
  · rcases mem_aput_ne hnd hq with rfl | ⟨hq, _⟩
    · exact hso
    · exact h.so q hq
  · rcases mem_aput_ne hnd hq with rfl | ⟨hq, _⟩
    · exact h.slo r hr ((a, b), (p, (c, k))) (aget_mem hg)
    · exact h.slo r hr q hq
  · rw [aput_map_eq (v' := (p, (d, k))) hg (fun q => q.2.1) rfl]; exact h.oap
  · rw [← h.inv2, aget_aput]
    split
    · rename_i e; subst e; simp [hg]
    · rfl
set_option maxRecDepth 100000 in
set_option maxHeartbeats 1000000 in
theorem Hold_ok (w : World) (B : HB) (room used : Int) (l : Slots) (L : Lasts) (V : Lives) (O : Objs) (a b : Int) (h : HeapAt w B room used l L V O) (hk : okH (a, b)) (p : Nat) (c k : Int) (hg : aget O (a, b) = some (p, (c, k))) (hc : -1000000 ≤ c ∧ c ≤ 1000000) :
    Calls Try.prog 32 #[.pointer (some ⟨B.x, 0, none⟩), .agg #[.int .i64 a, .int .u64 b]] w fun e w' => e = .returned (.tuple #[.int .i64 (c + 1), .int .i64 0]) ∧ HeapAt w' B room used l L V (aput O (a, b) (p, (c + 1, k))) ∧ Upd [p] w w' := by
  obtain ⟨hc1, hc2⟩ := hc
  go_enter Try.func32, Try.ntmps32
  go_wp2_with fail
  refine (hof_ok _ B room used l L V O a b (h.keep ((Upd.refl [] w).alloc _)) hk p c k hg).mono ?_
  rintro e w1 ⟨rfl, u1⟩
  have h1 := (h.keep ((Upd.refl [] w).alloc _)).keep u1
  have q1 := cell_of (h1.obj hg) 0
  have f1 := frozen_of (h1.obj hg) 0
  simp only [List.getElem?_toArray, List.getElem?_cons_zero, List.getElem?_cons_succ] at q1
  have h2 := h1.setCount hg (c + 1)
  go_wp2_with fail
  go_ret2
  exact ⟨rfl, h2, ((((Upd.refl [p] w).alloc _).step u1 (by simp)).setCell _ _ (.inl (by simp)))⟩
set_option maxRecDepth 100000 in
set_option maxHeartbeats 1000000 in
theorem Hold_no (w : World) (B : HB) (room used : Int) (l : Slots) (L : Lasts) (V : Lives) (O : Objs) (a b : Int) (h : HeapAt w B room used l L V O) (hk : okH (a, b)) (hg : aget O (a, b) = none) :
    Calls Try.prog 32 #[.pointer (some ⟨B.x, 0, none⟩), .agg #[.int .i64 a, .int .u64 b]] w fun e w' => e = .returned (.tuple #[.int .i64 0, .int .i64 130]) ∧ Upd [] w w' := by
  go_enter Try.func32, Try.ntmps32
  go_wp2_with fail
  refine (hof_stale _ B room used l L V O a b (h.keep ((Upd.refl [] w).alloc _)) hk hg).mono ?_
  rintro e w1 ⟨rfl, u1⟩
  go_wp2_with fail
  go_ret2
  exact ⟨rfl, ((Upd.refl [] w).alloc _).trans u1⟩
set_option maxRecDepth 100000 in
set_option maxHeartbeats 1000000 in
theorem HDrop_ok (w : World) (B : HB) (room used : Int) (l : Slots) (L : Lasts) (V : Lives) (O : Objs) (a b : Int) (h : HeapAt w B room used l L V O) (hk : okH (a, b)) (p : Nat) (c k : Int) (hg : aget O (a, b) = some (p, (c, k))) (hc : -1000000 ≤ c ∧ c ≤ 1000000) (h0 : c ≠ 0) :
    Calls Try.prog 33 #[.pointer (some ⟨B.x, 0, none⟩), .agg #[.int .i64 a, .int .u64 b]] w fun e w' => e = .returned (.tuple #[.int .i64 (c - 1), .int .i64 0]) ∧ HeapAt w' B room used l L V (aput O (a, b) (p, (c - 1, k))) ∧ Upd [p] w w' := by
  obtain ⟨hc1, hc2⟩ := hc
  have z : (c == 0) = false := beq_false_of_ne h0
  go_enter Try.func33, Try.ntmps33
  go_wp2_with fail
  refine (hof_ok _ B room used l L V O a b (h.keep ((Upd.refl [] w).alloc _)) hk p c k hg).mono ?_
  rintro e w1 ⟨rfl, u1⟩
  have h1 := (h.keep ((Upd.refl [] w).alloc _)).keep u1
  have q1 := cell_of (h1.obj hg) 0
  have f1 := frozen_of (h1.obj hg) 0
  simp only [List.getElem?_toArray, List.getElem?_cons_zero, List.getElem?_cons_succ] at q1
  have h2 := h1.setCount hg (c - 1)
  go_wp2_with fail
  go_ret2
  exact ⟨rfl, h2, ((((Upd.refl [p] w).alloc _).step u1 (by simp)).setCell _ _ (.inl (by simp)))⟩
set_option maxRecDepth 100000 in
set_option maxHeartbeats 1000000 in
theorem HDrop_zero (w : World) (B : HB) (room used : Int) (l : Slots) (L : Lasts) (V : Lives) (O : Objs) (a b : Int) (h : HeapAt w B room used l L V O) (hk : okH (a, b)) (p : Nat) (k : Int) (hg : aget O (a, b) = some (p, (0, k))) :
    Calls Try.prog 33 #[.pointer (some ⟨B.x, 0, none⟩), .agg #[.int .i64 a, .int .u64 b]] w fun e w' => e = .returned (.tuple #[.int .i64 0, .int .i64 3]) ∧ Upd [] w w' := by
  go_enter Try.func33, Try.ntmps33
  go_wp2_with fail
  refine (hof_ok _ B room used l L V O a b (h.keep ((Upd.refl [] w).alloc _)) hk p 0 k hg).mono ?_
  rintro e w1 ⟨rfl, u1⟩
  have h1 := (h.keep ((Upd.refl [] w).alloc _)).keep u1
  have q1 := cell_of (h1.obj hg) 0
  simp only [List.getElem?_toArray, List.getElem?_cons_zero, List.getElem?_cons_succ] at q1
  go_wp2_with fail
  go_ret2
  exact ⟨rfl, ((Upd.refl [] w).alloc _).trans u1⟩
set_option maxRecDepth 100000 in
set_option maxHeartbeats 1000000 in
theorem HDrop_no (w : World) (B : HB) (room used : Int) (l : Slots) (L : Lasts) (V : Lives) (O : Objs) (a b : Int) (h : HeapAt w B room used l L V O) (hk : okH (a, b)) (hg : aget O (a, b) = none) :
    Calls Try.prog 33 #[.pointer (some ⟨B.x, 0, none⟩), .agg #[.int .i64 a, .int .u64 b]] w fun e w' => e = .returned (.tuple #[.int .i64 0, .int .i64 130]) ∧ Upd [] w w' := by
  go_enter Try.func33, Try.ntmps33
  go_wp2_with fail
  refine (hof_stale _ B room used l L V O a b (h.keep ((Upd.refl [] w).alloc _)) hk hg).mono ?_
  rintro e w1 ⟨rfl, u1⟩
  go_wp2_with fail
  go_ret2
  exact ⟨rfl, ((Upd.refl [] w).alloc _).trans u1⟩
/-! ### New, Used, Room, Read, Write -/
theorem box_upd (w : World) (a b : Int) : Upd [] w (w.alloc (.cells #[.int .i64 a, .int .u64 b] 30 (0, 0))) := (Upd.refl [] w).alloc _
set_option maxRecDepth 100000 in
set_option maxHeartbeats 1000000 in
theorem NewHeap_ok (w : World) (room : Int) (h0 : 0 ≤ room) (h1 : room ≤ 65536) : Calls Try.prog 29 #[.int .i64 room] w fun e w' => ∃ B, e = .returned (.tuple #[.pointer (some ⟨B.x, 0, none⟩), .int .i64 0]) ∧ HeapAt w' B room 0 [] [] [] [] ∧ Upd [] w w' ∧ ∀ b ∈ B.all [] [], w.heap.size ≤ b := by
  have hmm := @run_makeMap Try.prog
  go_enter Try.func29, Try.ntmps29
  go_wp2_with fail
  refine (NewSlab_spec _ room h0 h1).mono ?_
  rintro e w1 ⟨s, bm, rfl, hs, u1, a1, a2⟩
  go_wp2_with fail
  refine (New_spec _).mono ?_
  rintro e w2 ⟨t, bl, bv, rfl, ht, u2, a3, a4, a5⟩
  have hs2 := hs.keep u2
  have sl := hs.lts
  have sz1 := u1.size
  have sl2 := hs2.lts
  have tl := ht.lts
  go_wp2_with fail
  go_ret2
  have X := ((Upd.refl [] w2).alloc (.map #[] 0)).alloc (.cells #[.pointer (some ⟨s, 0, none⟩), .pointer (some ⟨t, 0, none⟩), .map (some w2.heap.size)] 124)
  refine ⟨⟨w2.heap.size + 1, s, bm, t, bl, bv, w2.heap.size⟩, rfl, ?_, (u1.trans u2).trans X, ?_⟩
  · have hd := ht.d1
    have hd2 := ht.d2
    have hd3 := ht.d3
    refine ⟨?_, hs2.keep X, ht.kept X (by simp) (by simp) (by simp), (MapAt.made eh eo okH w2).alloc _, by simp, by simp; omega, by simp; omega, by simp; omega, by simp, by simp, by simp, by simp, by simp [aget], by simp [aget]⟩
    have := heap_alloc_new (w2.alloc (.map #[] 0)) (.cells #[.pointer (some ⟨s, 0, none⟩), .pointer (some ⟨t, 0, none⟩), .map (some w2.heap.size)] 124)
    simpa using this
  · intro b hb
    simp [HB.all] at hb
    have := u2.size
    omega
theorem NewHeap_no (w : World) (room : Int) (h : room < 0 ∨ 65536 < room) : Calls Try.prog 29 #[.int .i64 room] w fun e w' => e = .returned (.tuple #[.pointer none, .int .i64 2]) ∧ Upd [] w w' := by
  go_enter Try.func29, Try.ntmps29
  go_wp2_with fail
  refine (NewSlab_no _ room h).mono ?_
  rintro e w1 ⟨rfl, u1⟩
  go_wp2_with fail
  go_ret2
  exact ⟨rfl, u1⟩
theorem HeapAt.c0 {w : World} {B : HB} {room used : Int} {l : Slots} {L : Lasts} {V : Lives} {O : Objs} (h : HeapAt w B room used l L V O) : w.cell? ⟨B.x, 0, none⟩ = some (.pointer (some ⟨B.s, 0, none⟩)) := cell_of h.cells 0
theorem HeapAt.c1 {w : World} {B : HB} {room used : Int} {l : Slots} {L : Lasts} {V : Lives} {O : Objs} (h : HeapAt w B room used l L V O) : w.cell? ⟨B.x, 1, none⟩ = some (.pointer (some ⟨B.t, 0, none⟩)) := cell_of h.cells 1
theorem HeapAt.c2 {w : World} {B : HB} {room used : Int} {l : Slots} {L : Lasts} {V : Lives} {O : Objs} (h : HeapAt w B room used l L V O) : w.cell? ⟨B.x, 2, none⟩ = some (.map (some B.bo)) := cell_of h.cells 2
theorem HUsed_spec (w : World) (B : HB) (room used : Int) (l : Slots) (L : Lasts) (V : Lives) (O : Objs) (h : HeapAt w B room used l L V O) : Calls Try.prog 62 #[.pointer (some ⟨B.x, 0, none⟩)] w fun e w' => e = .returned (.int .i64 used) ∧ w = w' := by
  have c0 := h.c0
  go_enter Try.func62, Try.ntmps62
  go_wp2_with fail
  refine (Used_spec _ _ _ _ _ _ h.slab).mono ?_
  rintro e w1 ⟨rfl, rfl⟩
  go_wp2_with fail
  go_ret
  exact ⟨rfl, rfl⟩
theorem HRoom_spec (w : World) (B : HB) (room used : Int) (l : Slots) (L : Lasts) (V : Lives) (O : Objs) (h : HeapAt w B room used l L V O) : Calls Try.prog 63 #[.pointer (some ⟨B.x, 0, none⟩)] w fun e w' => e = .returned (.int .i64 room) ∧ w = w' := by
  have c0 := h.c0
  go_enter Try.func63, Try.ntmps63
  go_wp2_with fail
  refine (Room_spec _ _ _ _ _ _ h.slab).mono ?_
  rintro e w1 ⟨rfl, rfl⟩
  go_wp2_with fail
  go_ret
  exact ⟨rfl, rfl⟩
/-- A live object's bytes. -/
theorem HeapAt.slot {w : World} {B : HB} {room used : Int} {l : Slots} {L : Lasts} {V : Lives} {O : Objs} (h : HeapAt w B room used l L V O) {a b : Int} {p : Nat} {c k : Int} (hg : aget O (a, b) = some (p, (c, k))) : ∃ y, aget l a = some y := by
  have h1 := (h.inv2 (a, b)).1 (by rw [hg]; rfl)
  have h2 := h.inv1 a
  simp only at h1
  rw [h1] at h2
  cases hl : aget l a with
  | none => rw [hl] at h2; cases h2
  | some y => exact ⟨y, rfl⟩
set_option maxRecDepth 100000 in
set_option maxHeartbeats 1000000 in
theorem HRead_no (w : World) (B : HB) (room used : Int) (l : Slots) (L : Lasts) (V : Lives) (O : Objs) (a b i n : Int) (h : HeapAt w B room used l L V O) (hk : okH (a, b)) (hg : aget O (a, b) = none) :
    Calls Try.prog 36 #[.pointer (some ⟨B.x, 0, none⟩), .agg #[.int .i64 a, .int .u64 b], .int .i64 i, .int .i64 n] w fun e w' => e = .returned (.tuple #[.string ByteArray.empty, .int .i64 130]) ∧ Upd [] w w' := by
  go_enter Try.func36, Try.ntmps36
  go_wp2_with fail
  refine (hof_stale _ B room used l L V O a b (h.keep (box_upd w a b)) hk hg).mono ?_
  rintro e w1 ⟨rfl, u1⟩
  go_wp2_with fail
  go_ret2
  exact ⟨rfl, (box_upd w a b).trans u1⟩
set_option maxRecDepth 100000 in
set_option maxHeartbeats 1000000 in
theorem HRead_is (w : World) (B : HB) (room used : Int) (l : Slots) (L : Lasts) (V : Lives) (O : Objs) (a b i n : Int) (h : HeapAt w B room used l L V O) (hk : okH (a, b)) (p : Nat) (c k : Int) (hg : aget O (a, b) = some (p, (c, k)))
    (S : ByteArray) (r : Int) (hr : ∀ w', SlabAt w' B.s B.bm room used l → Calls Try.prog 26 #[.pointer (some ⟨B.s, 0, none⟩), .int .i64 a, .int .i64 i, .int .i64 n] w' fun e w'' => e = .returned (.tuple #[.string S, .int .i64 r]) ∧ w' = w'') :
    Calls Try.prog 36 #[.pointer (some ⟨B.x, 0, none⟩), .agg #[.int .i64 a, .int .u64 b], .int .i64 i, .int .i64 n] w fun e w' => e = .returned (.tuple #[.string S, .int .i64 r]) ∧ Upd [] w w' := by
  go_enter Try.func36, Try.ntmps36
  go_wp2_with fail
  refine (hof_ok _ B room used l L V O a b (h.keep (box_upd w a b)) hk p c k hg).mono ?_
  rintro e w1 ⟨rfl, u1⟩
  have h1 := (h.keep (box_upd w a b)).keep u1
  have c0 := h1.c0
  have b0 := u1.heap (heap_alloc_new w (.cells #[.int .i64 a, .int .u64 b] 30)) (by simp)
  have q0 := cell_of b0 0
  simp only [List.getElem?_toArray, List.getElem?_cons_zero] at q0
  have lx := lt_of_heap h1.cells
  have lw := lt_of_heap b0
  have lh := h.lts
  go_wp2_with fail
  go_region_with (go_at_call 26; refine (hr _ (h1.slab.keep ((Upd.refl [] w1).drew))).mono ?_; rintro e w2 ⟨rfl, rfl⟩)
  all_goals
    go_wp2_with fail
    go_ret2
    exact ⟨rfl, ((box_upd w a b).trans u1).drew⟩
/-- A slot's bytes are written. -/
theorem HeapAt.setBytes {w w' : World} {B : HB} {room used : Int} {l : Slots} {L : Lasts} {V : Lives} {O : Objs} (h : HeapAt w B room used l L V O) {a : Int} {g : Nat} {bs bs' : List UInt8} (hg : aget l a = some (g, bs)) (u : Upd [g] w w')
    (hs : SlabAt w' B.s B.bm room used (aput l a (g, bs'))) : HeapAt w' B room used (aput l a (g, bs')) L V O := by
  have hsl := h.sl _ (aget_mem hg)
  simp only at hsl
  have hnd := h.slab.map.nodup ki
  refine { h with
    cells := u.heap h.cells (by simp; omega)
    slab := hs
    tab := h.tab.kept u (by simp; omega) (by simp; omega) (by simp; omega)
    map := h.map.kept u (by simp; omega)
    objs := fun q hq => u.heap (h.objs q hq) (by have := h.slo _ (aget_mem hg) q hq; simp only at this; simp; omega)
    sl := fun p hp => ?_, slo := fun p hp q hq => ?_, inv1 := fun x => ?_ }
  · rcases mem_aput_ne hnd hp with rfl | ⟨hp, _⟩
    · exact hsl
    · exact h.sl p hp
  · rcases mem_aput_ne hnd hp with rfl | ⟨hp, _⟩
    · exact h.slo (a, (g, bs)) (aget_mem hg) q hq
    · exact h.slo p hp q hq
  · rw [h.inv1, aget_aput]
    split
    · rename_i e; subst e; simp [hg]
    · rfl
set_option maxRecDepth 100000 in
set_option maxHeartbeats 1000000 in
theorem HWrite_no (w : World) (B : HB) (room used : Int) (l : Slots) (L : Lasts) (V : Lives) (O : Objs) (a b i : Int) (t : ByteArray) (h : HeapAt w B room used l L V O) (hk : okH (a, b)) (hg : aget O (a, b) = none) :
    Calls Try.prog 37 #[.pointer (some ⟨B.x, 0, none⟩), .agg #[.int .i64 a, .int .u64 b], .int .i64 i, .string t] w fun e w' => e = .returned (.int .i64 130) ∧ Upd [] w w' := by
  go_enter Try.func37, Try.ntmps37
  go_wp2_with fail
  refine (hof_stale _ B room used l L V O a b (h.keep (box_upd w a b)) hk hg).mono ?_
  rintro e w1 ⟨rfl, u1⟩
  go_wp2_with fail
  go_ret
  exact ⟨rfl, (box_upd w a b).trans u1⟩
set_option maxRecDepth 100000 in
set_option maxHeartbeats 1000000 in
theorem HWrite_is (w : World) (B : HB) (room used : Int) (l : Slots) (L : Lasts) (V : Lives) (O : Objs) (a b i : Int) (t : ByteArray) (h : HeapAt w B room used l L V O) (hk : okH (a, b)) (p : Nat) (c k : Int) (hg : aget O (a, b) = some (p, (c, k)))
    (r : Int) (l' : Slots) (S : List Nat) (hr : ∀ w', SlabAt w' B.s B.bm room used l → Calls Try.prog 24 #[.pointer (some ⟨B.s, 0, none⟩), .int .i64 a, .int .i64 i, .string t] w' fun e w'' => e = .returned (.int .i64 r) ∧ SlabAt w'' B.s B.bm room used l' ∧ Upd S w' w'') :
    Calls Try.prog 37 #[.pointer (some ⟨B.x, 0, none⟩), .agg #[.int .i64 a, .int .u64 b], .int .i64 i, .string t] w fun e w' => e = .returned (.int .i64 r) ∧ SlabAt w' B.s B.bm room used l' ∧ Upd S w w' := by
  go_enter Try.func37, Try.ntmps37
  go_wp2_with fail
  refine (hof_ok _ B room used l L V O a b (h.keep (box_upd w a b)) hk p c k hg).mono ?_
  rintro e w1 ⟨rfl, u1⟩
  have h1 := (h.keep (box_upd w a b)).keep u1
  have c0 := h1.c0
  have b0 := u1.heap (heap_alloc_new w (.cells #[.int .i64 a, .int .u64 b] 30)) (by simp)
  have q0 := cell_of b0 0
  simp only [List.getElem?_toArray, List.getElem?_cons_zero] at q0
  have U1 := (box_upd w a b).trans u1
  go_wp2_with fail
  go_region_with (go_at_call 24; refine (hr _ (h1.slab.keep ((Upd.refl [] w1).drew))).mono ?_; rintro e w2 ⟨rfl, h2, u2⟩)
  all_goals
    go_wp2_with fail
    go_ret
    exact ⟨rfl, h2, (U1.drew.mono (by simp)).trans u2⟩
theorem HWrite_ok (w : World) (B : HB) (room used : Int) (l : Slots) (L : Lasts) (V : Lives) (O : Objs) (a b : Int) (i : Nat) (t : ByteArray) (h : HeapAt w B room used l L V O) (hk : okH (a, b)) (p : Nat) (c k : Int) (hg : aget O (a, b) = some (p, (c, k)))
    (g : Nat) (bs : List UInt8) (hl : aget l a = some (g, bs)) (hb : bs.length ≤ 1000) (hf : i + t.size ≤ bs.length) :
    Calls Try.prog 37 #[.pointer (some ⟨B.x, 0, none⟩), .agg #[.int .i64 a, .int .u64 b], .int .i64 (i : Int), .string t] w fun e w' => e = .returned (.int .i64 0) ∧ HeapAt w' B room used (aput l a (g, over bs i t.data.toList)) L V O ∧ Upd [g] w w' :=
  (HWrite_is w B room used l L V O a b i t h hk p c k hg 0 _ [g] (fun w' hs => Write_ok w' _ _ _ _ l a i t hs hk.1 g bs hl hb hf)).mono fun e w' ⟨h1, h2, h3⟩ => ⟨h1, h.setBytes hl h3 h2, h3⟩
theorem HWrite_bad (w : World) (B : HB) (room used : Int) (l : Slots) (L : Lasts) (V : Lives) (O : Objs) (a b i : Int) (t : ByteArray) (h : HeapAt w B room used l L V O) (hk : okH (a, b)) (p : Nat) (c k : Int) (hg : aget O (a, b) = some (p, (c, k)))
    (g : Nat) (bs : List UInt8) (hl : aget l a = some (g, bs)) (hb : ∀ q ∈ l, q.2.2.length ≤ 1000) (hi : okI i) (ht : okI t.size) (hf : ¬ fits bs.length i t.size) :
    Calls Try.prog 37 #[.pointer (some ⟨B.x, 0, none⟩), .agg #[.int .i64 a, .int .u64 b], .int .i64 i, .string t] w fun e w' => e = .returned (.int .i64 120) ∧ Upd [] w w' :=
  (HWrite_is w B room used l L V O a b i t h hk p c k hg 120 l [] (fun w' hs => (Write_no w' _ _ _ _ l a i 120 t hs hk.1 hi ht hb (.inr ⟨g, bs, hl, hf, rfl⟩)).mono fun e w'' ⟨h1, h2⟩ => ⟨h1, h2 ▸ hs, h2 ▸ Upd.refl _ _⟩)).mono fun e w' ⟨h1, h2, h3⟩ => ⟨h1, h3⟩
theorem HRead_ok (w : World) (B : HB) (room used : Int) (l : Slots) (L : Lasts) (V : Lives) (O : Objs) (a b : Int) (i n : Nat) (h : HeapAt w B room used l L V O) (hk : okH (a, b)) (p : Nat) (c k : Int) (hg : aget O (a, b) = some (p, (c, k)))
    (g : Nat) (bs : List UInt8) (hl : aget l a = some (g, bs)) (hb : bs.length ≤ 1000) (hf : i + n ≤ bs.length) :
    Calls Try.prog 36 #[.pointer (some ⟨B.x, 0, none⟩), .agg #[.int .i64 a, .int .u64 b], .int .i64 (i : Int), .int .i64 (n : Int)] w fun e w' => e = .returned (.tuple #[.string (bstr ((bs.drop i).take n)), .int .i64 0]) ∧ Upd [] w w' :=
  HRead_is w B room used l L V O a b i n h hk p c k hg _ 0 (fun w' hs => Read_ok w' _ _ _ _ l a i n hs hk.1 g bs hl hb hf)
theorem HRead_bad (w : World) (B : HB) (room used : Int) (l : Slots) (L : Lasts) (V : Lives) (O : Objs) (a b i n : Int) (h : HeapAt w B room used l L V O) (hk : okH (a, b)) (p : Nat) (c k : Int) (hg : aget O (a, b) = some (p, (c, k)))
    (g : Nat) (bs : List UInt8) (hl : aget l a = some (g, bs)) (hb : ∀ q ∈ l, q.2.2.length ≤ 1000) (hi : okI i) (hn : okI n) (hf : ¬ fits bs.length i n) :
    Calls Try.prog 36 #[.pointer (some ⟨B.x, 0, none⟩), .agg #[.int .i64 a, .int .u64 b], .int .i64 i, .int .i64 n] w fun e w' => e = .returned (.tuple #[.string ByteArray.empty, .int .i64 120]) ∧ Upd [] w w' :=
  HRead_is w B room used l L V O a b i n h hk p c k hg _ 120 (fun w' hs => Read_no w' _ _ _ _ l a i n 120 hs hk.1 hi hn hb (.inr ⟨g, bs, hl, hf, rfl⟩))
/-! ### Make, Free -/
set_option maxRecDepth 100000 in
set_option maxHeartbeats 2000000 in
theorem HMake_no (w : World) (B : HB) (room used kind n : Int) (l : Slots) (L : Lasts) (V : Lives) (O : Objs) (h : HeapAt w B room used l L V O) (r : Int) (hr0 : r ≠ 0)
    (hr : ∀ w', SlabAt w' B.s B.bm room used l → Calls Try.prog 23 #[.pointer (some ⟨B.s, 0, none⟩), .int .i64 n] w' fun e w'' => e = .returned (.tuple #[.int .i64 0, .int .i64 r]) ∧ Upd [] w' w'') :
    Calls Try.prog 30 #[.pointer (some ⟨B.x, 0, none⟩), .int .i64 kind, .int .i64 n] w fun e w' => e = .returned (.tuple #[.agg #[.int .i64 0, .int .u64 0], .int .i64 r]) ∧ Upd [] w w' := by
  have e122 := en122
  have z : (r != 0) = true := by simpa using hr0
  have h1 := h.keep (box_upd w 0 0)
  have c0 := h.c0
  have c2 := h.c2
  have lt := lt_of_heap h.cells
  go_enter Try.func30, Try.ntmps30
  go_wp2_with fail
  refine (hr _ h1.slab).mono ?_
  rintro e w1 ⟨rfl, u1⟩
  have b0 := u1.heap (heap_alloc_new w (.cells #[.int .i64 0, .int .u64 0] 30)) (by simp)
  have q0 := cell_of b0 0
  have q1 := cell_of b0 1
  have f0 := frozen_of b0 0
  have f1 := frozen_of b0 1
  simp only [List.getElem?_toArray, List.getElem?_cons_zero, List.getElem?_cons_succ] at q0 q1
  go_wp2_with fail
  exact bodyPost_ret (v := .tuple #[.agg #[.int .i64 0, .int .u64 0], .int .i64 r]) (by simp [results, Try.results30, go_sem, q0, q1]) rfl ⟨rfl, (((box_upd w 0 0).trans u1).setCell _ _ (.inr (by simp))).setCell _ _ (.inr (by simp))⟩
end Go.Proofs.Ytgleceijdedlkaa
