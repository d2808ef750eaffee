/- The table of handles: what New, Make, Drop, Lives, Of do to memory. -/
import Derived.Test.YtgleceijdedlkaaMapLib
import Derived.Test.YtgleceijdedlkaaProg
import Derived.WalkKit
import Derived.RegionTactic
import Derived.BigRegion
import Derived.Deep.QuietTactic
import Derived.BigQuiet
import Derived.WalkSpells
import Derived.WalkLawsBesides
import Derived.Laws.StructEq
import Derived.KernelRfl
import Derived.Outline
import Derived.StillTailTactics
namespace Go.Proofs.Ytgleceijdedlkaa
open Go.RowKit
set_option linter.unusedVariables false
set_option linter.unusedSimpArgs false
def okI (a : Int) : Prop := (Lit.int .i64 a).wf = true
theorem ki : Kops Try.prog 3 (Value.int .i64) okI := kops_int Try.underlying3
/-- A handle's value. -/
def eh (p : Int × Int) : Value := .agg #[.int .i64 p.1, .int .u64 p.2]
/-- A table of handles at block t. -/
structure TableAt (w : World) (t bl bv : Nat) (L : List (Int × Int)) (V : List (Int × (Int × Int))) : Prop where
  cells : w.heap[t]? = some (.cells #[.map (some bl), .map (some bv)] 115 (0, 0))
  last : MapAt (Value.int .i64) (Value.int .u64) okI w bl L
  live : MapAt (Value.int .i64) eh okI w bv V
  d1 : t ≠ bl
  d2 : t ≠ bv
  d3 : bl ≠ bv
theorem TableAt.kept {S : List Nat} {w w' : World} {t bl bv : Nat} {L : List (Int × Int)} {V : List (Int × (Int × Int))} (h : TableAt w t bl bv L V) (u : Upd S w w') (h1 : t ∉ S) (h2 : bl ∉ S) (h3 : bv ∉ S) : TableAt w' t bl bv L V :=
  ⟨u.heap h.cells h1, h.last.kept u h2, h.live.kept u h3, h.d1, h.d2, h.d3⟩

theorem TableAt.c0 {w : World} {t bl bv : Nat} {L : List (Int × Int)} {V : List (Int × (Int × Int))} (h : TableAt w t bl bv L V) : w.cell? ⟨t, 0, none⟩ = some (.map (some bl)) := cell_of h.cells 0
theorem TableAt.c1 {w : World} {t bl bv : Nat} {L : List (Int × Int)} {V : List (Int × (Int × Int))} (h : TableAt w t bl bv L V) : w.cell? ⟨t, 1, none⟩ = some (.map (some bv)) := cell_of h.cells 1
set_option maxHeartbeats 400000 in
theorem New_spec (w : World) : Calls Try.prog 18 #[] w fun e w' => ∃ t bl bv, e = .returned (.pointer (some ⟨t, 0, none⟩)) ∧ TableAt w' t bl bv [] [] ∧ Upd [] w w' ∧ w.heap.size ≤ t ∧ w.heap.size ≤ bl ∧ w.heap.size ≤ bv := by
  have hmm := @run_makeMap Try.prog
  go_enter Try.func18, Try.ntmps18
  go_wp2
  go_ret
  refine ⟨w.heap.size + 1 + 1, w.heap.size, w.heap.size + 1, rfl, ⟨?_, ?_, ?_, by omega, by omega, by omega⟩, (((Upd.refl _ w).alloc _).alloc _).alloc _, by omega, by omega, by omega⟩
  · have := heap_alloc_new ((w.alloc (.map #[] 0)).alloc (.map #[] 0)) (Obj.cells #[Value.map (some w.heap.size), Value.map (some (w.heap.size + 1))] 115)
    simpa using this
  · exact ((MapAt.made _ _ _ w).alloc _).alloc _
  · have := (MapAt.made (Value.int .i64) eh okI (w.alloc (.map #[] 0))).alloc (Obj.cells #[Value.map (some w.heap.size), Value.map (some (w.heap.size + 1))] 115)
    simpa using this
theorem zero26 (w : World) : (zeroValue 26).run Try.prog w = .ok (.int .u64 0) w := by kernel_rfl
theorem zero30 (w : World) : (zeroValue 30).run Try.prog w = .ok (eh (0, 0)) w := by kernel_rfl
/-- What a table answers when one is to be made. -/
def genOf (L : List (Int × Int)) (slot : Int) : Int := IntKind.u64.wrap ((aget L slot).getD 0 + 1)
theorem en113 (w : World) (r : Nat) : (binOp .eql 113 (.map (some r)) (.map none)).run Try.prog w = .ok (.bool false) w := run_eql_map_nil w 113 _ _ (some r) Try.underlying113
set_option maxRecDepth 100000 in
set_option maxHeartbeats 1000000 in
theorem Make_new (w : World) (t bl bv : Nat) (L : List (Int × Int)) (V : List (Int × (Int × Int))) (slot : Int) (h : TableAt w t bl bv L V) (hs : okI slot) (h0 : 0 ≤ slot) (hn : aget V slot = none) :
    Calls Try.prog 19 #[.pointer (some ⟨t, 0, none⟩), .int .i64 slot] w fun e w' => e = .returned (.tuple #[eh (slot, genOf L slot), .int .i64 0]) ∧
      TableAt w' t bl bv (aput L slot (genOf L slot)) (aput V slot (slot, genOf L slot)) ∧ Upd [bl, bv] w w' := by
  have c0 := h.c0
  have c1 := h.c1
  have lt := lt_of_heap h.cells
  have lbl := h.last.lt
  have lbv := h.live.lt
  have e113 := en113
  have r1 : ∀ w', MapAt (Value.int .i64) eh okI w' bv V → (Instr.lookup 113 (.map (some bv)) (.int .i64 slot) true).run Try.prog w' = .ok (.tuple #[.agg #[.int .i64 0, .int .u64 0], .bool false]) w' := fun w' hm => by
    rw [hm.lookup ki Try.underlying113 (zero30 _) hs true, hn]; rfl
  have r2 : ∀ w', MapAt (Value.int .i64) (Value.int .u64) okI w' bl L → (Instr.lookup 112 (.map (some bl)) (.int .i64 slot) false).run Try.prog w' = .ok (.int .u64 ((aget L slot).getD 0)) w' := fun w' hm => by
    rw [hm.lookup ki Try.underlying112 (zero26 _) hs false]; unfold lookV; cases aget L slot <;> rfl
  have m1 : ∀ o, MapAt (Value.int .i64) eh okI (w.alloc o) bv V := fun o => h.live.alloc o
  have z : decide (slot < 0) = false := decide_eq_false (by omega)
  go_enter Try.func19, Try.ntmps19
  have nt := h.d1
  have ns : w.heap.size ≠ bl := by omega
  have ns2 : w.heap.size ≠ bv := by omega
  have m2 : ∀ o o', MapAt (Value.int .i64) (Value.int .u64) okI ((w.alloc o).alloc o') bl L := fun o o' => (h.last.alloc o).alloc o'
  go_wp2_with (at_mapUpdate; refine wl_mapUpdate rfl (.tmp 37) (.tmp 38) (.tmp 40) rfl ki Try.underlying112 rfl (m2 _ _) slot (genOf L slot) rfl rfl hs ?_; intro w1 h1 u1 z1; have U1 := (((Upd.refl [bl] w).alloc _).alloc _).trans u1; have b0 := u1.heap (heap_alloc_old (heap_alloc_new w _) _) (by simpa using ns); have b1 := U1.heap h.cells (by simpa using h.d1); have q0 := cell_of b0 0; have q1 := cell_of b0 1; have q2 := cell_of b1 0; have q3 := cell_of b1 1; have f0 := frozen_of b0 0; have f1 := frozen_of b0 1; have l1 := h.live.kept U1 (by simpa using Ne.symm h.d3); clear u1; simp only [List.getElem?_toArray, List.getElem?_cons_zero, List.getElem?_cons_succ] at q0 q1 q2 q3)
  have h1d := h1.drew
  have q3d := l1.drew
  have r3 : ∀ w', MapAt (Value.int .i64) (Value.int .u64) okI w' bl (aput L slot (genOf L slot)) → (Instr.lookup 112 (.map (some bl)) (.int .i64 slot) false).run Try.prog w' = .ok (.int .u64 (genOf L slot)) w' := fun w' hm => by
    rw [hm.lookup ki Try.underlying112 (zero26 _) hs false, aget_aput_self]; rfl
  have r4 : ∀ w', MapAt (Value.int .i64) eh okI w' bv (aput V slot (slot, genOf L slot)) → (Instr.lookup 113 (.map (some bv)) (.int .i64 slot) false).run Try.prog w' = .ok (.agg #[.int .i64 slot, .int .u64 (genOf L slot)]) w' := fun w' hm => by
    rw [hm.lookup ki Try.underlying113 (zero30 _) hs false, aget_aput_self]; rfl
  refine still_tail 13 (by kernel_rfl) (by kernel_rfl) ?_
  simp only [List.take_succ_cons, List.take_zero, List.drop_succ_cons, List.drop_zero]
  repeat still_step
  refine wpStill_nil ?_
  go_wp2_with (at_mapUpdate; refine wl_mapUpdate rfl (.tmp 44) (.tmp 45) (.tmp 53) rfl ki Try.underlying113 rfl q3d slot (slot, genOf L slot) rfl rfl hs ?_; intro w2 h2 u2 z2; have U2 := (U1.mono (T := [bl, bv]) (by simp)).drew.step u2 (by simp); have e0 := u2.heap (w := w1.drew) b0 (by simpa using ns2); have e1 := u2.heap (w := w1.drew) b1 (by simpa using h.d2); have g0 := cell_of e0 0; have g1 := cell_of e0 1; have g2 := cell_of e1 0; have g3 := cell_of e1 1; have f2 := frozen_of e0 0; have f3 := frozen_of e0 1; have l2 := h1d.kept u2 (by simpa using h.d3); clear u2 q0 q1 q2 q3 f0 f1; simp only [List.getElem?_toArray, List.getElem?_cons_zero, List.getElem?_cons_succ] at g0 g1 g2 g3)
  have X := ((Upd.refl [w.heap.size] w2).setCell ⟨w.heap.size, 0, none⟩ (Value.int .i64 slot) (.inl (by simp))).setCell ⟨w.heap.size, 1, none⟩ (Value.int .u64 (genOf L slot)) (.inl (by simp))
  refine bodyPost_ret (v := .tuple #[.agg #[.int .i64 slot, .int .u64 (genOf L slot)], .int .i64 0]) (by simp [results, Try.results19, go_sem, g0, g1]) rfl ⟨rfl, ⟨X.heap e1 (by simp; omega), l2.kept X (by simpa using Ne.symm ns), h2.kept X (by simpa using Ne.symm ns2), h.d1, h.d2, h.d3⟩, U2.step X (by simp)⟩
/-- What a look-up of the living answers. -/
theorem look113 (V : List (Int × (Int × Int))) (slot : Int) (c : Bool) : lookV eh (eh (0, 0)) c (aget V slot) = if c then .tuple #[.agg #[.int .i64 ((aget V slot).getD (0, 0)).1, .int .u64 ((aget V slot).getD (0, 0)).2], .bool (aget V slot).isSome] else .agg #[.int .i64 ((aget V slot).getD (0, 0)).1, .int .u64 ((aget V slot).getD (0, 0)).2] := by
  unfold lookV eh
  cases aget V slot <;> cases c <;> rfl
set_option maxRecDepth 100000 in
set_option maxHeartbeats 1000000 in
theorem Make_no (w : World) (t bl bv : Nat) (L : List (Int × Int)) (V : List (Int × (Int × Int))) (slot : Int) (h : TableAt w t bl bv L V) (hs : okI slot) (r : Int) (hr : (slot < 0 ∧ r = 2) ∨ (0 ≤ slot ∧ (aget V slot).isSome = true ∧ r = 7)) :
    Calls Try.prog 19 #[.pointer (some ⟨t, 0, none⟩), .int .i64 slot] w fun e w' => e = .returned (.tuple #[eh (0, 0), .int .i64 r]) ∧ TableAt w' t bl bv L V ∧ Upd [] w w' := by
  have c1 := h.c1
  have lt := lt_of_heap h.cells
  have e113 := en113
  have r1 : ∀ w', MapAt (Value.int .i64) eh okI w' bv V → (Instr.lookup 113 (.map (some bv)) (.int .i64 slot) true).run Try.prog w' = .ok (.tuple #[.agg #[.int .i64 ((aget V slot).getD (0, 0)).1, .int .u64 ((aget V slot).getD (0, 0)).2], .bool (aget V slot).isSome]) w' := fun w' hm => by
    rw [hm.lookup ki Try.underlying113 (zero30 _) hs true, look113]; rfl
  have m1 : ∀ o, MapAt (Value.int .i64) eh okI (w.alloc o) bv V := fun o => h.live.alloc o
  rcases hr with ⟨hr, rfl⟩ | ⟨hr, hi, rfl⟩
  · have z : decide (slot < 0) = true := decide_eq_true hr
    generalize (aget V slot).isSome = b at r1
    generalize (aget V slot).getD (0, 0) = p at r1
    go_enter Try.func19, Try.ntmps19
    go_wp2
    exact bodyPost_ret (v := .tuple #[.agg #[.int .i64 0, .int .u64 0], .int .i64 2]) (by simp [results, Try.results19, go_sem]) rfl ⟨rfl, h.kept (((Upd.refl [] w).alloc _).alloc _) (by simp) (by simp) (by simp), ((Upd.refl [] w).alloc _).alloc _⟩
  · have z : decide (slot < 0) = false := decide_eq_false (by omega)
    rw [hi] at r1
    generalize (aget V slot).getD (0, 0) = p at r1
    go_enter Try.func19, Try.ntmps19
    go_wp2
    exact bodyPost_ret (v := .tuple #[.agg #[.int .i64 0, .int .u64 0], .int .i64 7]) (by simp [results, Try.results19, go_sem]) rfl ⟨rfl, h.kept (((Upd.refl [] w).alloc _).alloc _) (by simp) (by simp) (by simp), ((Upd.refl [] w).alloc _).alloc _⟩
set_option maxRecDepth 100000 in
set_option maxHeartbeats 1000000 in
theorem Lives_spec (w : World) (t bl bv : Nat) (L : List (Int × Int)) (V : List (Int × (Int × Int))) (s g : Int) (h : TableAt w t bl bv L V) (hs : okI s) :
    Calls Try.prog 47 #[.pointer (some ⟨t, 0, none⟩), .agg #[.int .i64 s, .int .u64 g]] w fun e w' => e = .returned (.bool (decide (aget V s = some (s, g)))) ∧ Upd [] w w' := by
  have c1 := h.c1
  have lt := lt_of_heap h.cells
  have e113 := en113
  have r1 : ∀ w', MapAt (Value.int .i64) eh okI w' bv V → (Instr.lookup 113 (.map (some bv)) (.int .i64 s) true).run Try.prog w' = .ok (.tuple #[.agg #[.int .i64 ((aget V s).getD (0, 0)).1, .int .u64 ((aget V s).getD (0, 0)).2], .bool (aget V s).isSome]) w' := fun w' hm => by
    rw [hm.lookup ki Try.underlying113 (zero30 _) hs true, look113]; rfl
  have m1 : ∀ o, MapAt (Value.int .i64) eh okI (w.alloc o).drew bv V := fun o => (h.live.alloc o).drew
  have m2 : ∀ o o', MapAt (Value.int .i64) eh okI ((w.alloc o).alloc o').drew bv V := fun o o' => ((h.live.alloc o).alloc o').drew
  go_enter Try.func47, Try.ntmps47
  go_wp2
  go_region
  all_goals go_wp2
  all_goals
    go_ret
    refine ⟨?_, (((Upd.refl [] w).alloc _).alloc _).drew⟩
    clear r1 m1 m2 e113 c1 h
    cases hv : aget V s with
    | none => simp_all
    | some p => obtain ⟨a, b⟩ := p; simp_all
set_option maxRecDepth 100000 in
set_option maxHeartbeats 1000000 in
theorem Drop_spec (w : World) (t bl bv : Nat) (L : List (Int × Int)) (V : List (Int × (Int × Int))) (s g : Int) (h : TableAt w t bl bv L V) (hs : okI s) :
    Calls Try.prog 20 #[.pointer (some ⟨t, 0, none⟩), .agg #[.int .i64 s, .int .u64 g]] w fun e w' => e = .returned (.int .i64 (if aget V s = some (s, g) then 0 else 130)) ∧ TableAt w' t bl bv L (if aget V s = some (s, g) then adel V s else V) ∧ Upd [bv] w w' := by
  have c1 := h.c1
  have lt := lt_of_heap h.cells
  have e113 := en113
  have hT := h.kept ((Upd.refl [] w).alloc (.cells #[.int .i64 s, .int .u64 g] 30)) (by simp) (by simp) (by simp)
  by_cases c : aget V s = some (s, g)
  · have z : decide (aget V s = some (s, g)) = true := decide_eq_true c
    rw [if_pos c, if_pos c]
    clear c
    go_enter Try.func20, Try.ntmps20
    go_wp2_with (go_at_call 47; (with_reducible refine (Lives_spec _ t bl bv L V s g hT hs).mono ?_); rintro e w1 ⟨rfl, u1⟩; have hT1 := hT.kept u1 (by simp) (by simp) (by simp); have U1 := ((Upd.refl [bv] w).alloc _).step u1 (by simp); have b0 := u1.heap (heap_alloc_new w _) (by simp); have q0 := cell_of b0 0; have q1 := hT1.c1; clear u1; simp only [List.getElem?_toArray, List.getElem?_cons_zero] at q0)
    refine still_tail 6 (by kernel_rfl) (by kernel_rfl) ?_
    simp only [List.take_succ_cons, List.take_zero, List.drop_succ_cons, List.drop_zero]
    repeat still_step
    refine wpStill_nil ?_
    have l1 := hT1.live.drew
    go_wp2_with (at_delete; refine wl_delete rfl (.tmp 23) (.tmp 25) _ rfl rfl ki Try.underlying113 rfl l1 s rfl hs ?_; intro w2 h2 u2 z2)
    go_ret
    have u2' : Upd [bv] w1 w2 := ⟨u2.os, u2.tape, u2.output, u2.size, u2.block⟩
    exact ⟨rfl, ⟨u2'.heap hT1.cells (by simpa using h.d2), hT1.last.kept u2' (by simpa using h.d3), h2, h.d1, h.d2, h.d3⟩, U1.trans u2'⟩
  · have z : decide (aget V s = some (s, g)) = false := decide_eq_false c
    rw [if_neg c, if_neg c]
    clear c
    go_enter Try.func20, Try.ntmps20
    go_wp2_with (go_at_call 47; (with_reducible refine (Lives_spec _ t bl bv L V s g hT hs).mono ?_); rintro e w1 ⟨rfl, u1⟩; have hT1 := hT.kept u1 (by simp) (by simp) (by simp))
    go_ret
    exact ⟨rfl, hT1, (((Upd.refl [bv] w).alloc _).step u1 (by simp))⟩
set_option maxRecDepth 100000 in
set_option maxHeartbeats 1000000 in
theorem Of_spec (w : World) (t bl bv : Nat) (L : List (Int × Int)) (V : List (Int × (Int × Int))) (s : Int) (h : TableAt w t bl bv L V) (hs : okI s) :
    Calls Try.prog 44 #[.pointer (some ⟨t, 0, none⟩), .int .i64 s] w fun e w' => e = .returned (.tuple #[.agg #[.int .i64 ((aget V s).getD (0, 0)).1, .int .u64 ((aget V s).getD (0, 0)).2], .bool (aget V s).isSome]) ∧ Upd [] w w' := by
  have c1 := h.c1
  have lt := lt_of_heap h.cells
  have r1 : ∀ w', MapAt (Value.int .i64) eh okI w' bv V → (Instr.lookup 113 (.map (some bv)) (.int .i64 s) true).run Try.prog w' = .ok (.tuple #[.agg #[.int .i64 ((aget V s).getD (0, 0)).1, .int .u64 ((aget V s).getD (0, 0)).2], .bool (aget V s).isSome]) w' := fun w' hm => by
    rw [hm.lookup ki Try.underlying113 (zero30 _) hs true, look113]; rfl
  have m1 : ∀ o, MapAt (Value.int .i64) eh okI (w.alloc o) bv V := fun o => h.live.alloc o
  generalize (aget V s).isSome = b at r1 ⊢
  generalize (aget V s).getD (0, 0) = p at r1 ⊢
  go_enter Try.func44, Try.ntmps44
  go_wp2
  exact bodyPost_ret (v := .tuple #[.agg #[.int .i64 p.1, .int .u64 p.2], .bool b]) (by simp [results, Try.results44, go_sem]) rfl ⟨rfl, by repeat (first | exact Upd.refl [] w | (apply Upd.alloc) | (refine Upd.setCell ?_ _ _ (.inr (by simp))))⟩
def mkOk (V : List (Int × (Int × Int))) (s : Int) : Bool := decide (0 ≤ s) && (aget V s).isNone
def mkH (L : List (Int × Int)) (V : List (Int × (Int × Int))) (s : Int) : Int × Int := if mkOk V s then (s, genOf L s) else (0, 0)
def mkE (V : List (Int × (Int × Int))) (s : Int) : Int := if s < 0 then 2 else if (aget V s).isSome then 7 else 0
def mkL (L : List (Int × Int)) (V : List (Int × (Int × Int))) (s : Int) : List (Int × Int) := if mkOk V s then aput L s (genOf L s) else L
def mkV (L : List (Int × Int)) (V : List (Int × (Int × Int))) (s : Int) : List (Int × (Int × Int)) := if mkOk V s then aput V s (s, genOf L s) else V
def drE (V : List (Int × (Int × Int))) (s g : Int) : Int := if aget V s = some (s, g) then 0 else 130
def drV (V : List (Int × (Int × Int))) (s g : Int) : List (Int × (Int × Int)) := if aget V s = some (s, g) then adel V s else V
theorem Make_spec (w : World) (t bl bv : Nat) (L : List (Int × Int)) (V : List (Int × (Int × Int))) (s : Int) (h : TableAt w t bl bv L V) (hs : okI s) :
    Calls Try.prog 19 #[.pointer (some ⟨t, 0, none⟩), .int .i64 s] w fun e w' => e = .returned (.tuple #[.agg #[.int .i64 (mkH L V s).1, .int .u64 (mkH L V s).2], .int .i64 (mkE V s)]) ∧ TableAt w' t bl bv (mkL L V s) (mkV L V s) ∧ Upd [bl, bv] w w' := by
  unfold mkH mkE mkL mkV
  by_cases h0 : 0 ≤ s
  · cases hv : aget V s with
    | none =>
      have hk : mkOk V s = true := by simp [mkOk, h0, hv]
      simp only [hk, if_true]
      rw [if_neg (by omega : ¬ s < 0)]
      exact Make_new w t bl bv L V s h hs h0 hv
    | some p =>
      have hk : mkOk V s = false := by simp [mkOk, hv]
      simp only [hk, Bool.false_eq_true, if_false]
      rw [if_neg (by omega : ¬ s < 0)]
      exact (Make_no w t bl bv L V s h hs 7 (.inr ⟨h0, by simp [hv], rfl⟩)).mono fun e w' ⟨a, b, c⟩ => ⟨a, b, c.mono (by simp)⟩
  · have hk : mkOk V s = false := by simp [mkOk, h0]
    simp only [hk, Bool.false_eq_true, if_false]
    rw [if_pos (by omega : s < 0)]
    exact (Make_no w t bl bv L V s h hs 2 (.inl ⟨by omega, rfl⟩)).mono fun e w' ⟨a, b, c⟩ => ⟨a, b, c.mono (by simp)⟩
theorem Drop_sp (w : World) (t bl bv : Nat) (L : List (Int × Int)) (V : List (Int × (Int × Int))) (s g : Int) (h : TableAt w t bl bv L V) (hs : okI s) :
    Calls Try.prog 20 #[.pointer (some ⟨t, 0, none⟩), .agg #[.int .i64 s, .int .u64 g]] w fun e w' => e = .returned (.int .i64 (drE V s g)) ∧ TableAt w' t bl bv L (drV V s g) ∧ Upd [bv] w w' := Drop_spec w t bl bv L V s g h hs
def hcell (a b : Int) : Obj := .cells #[.int .i64 a, .int .u64 b] 30
theorem TableAt.alloc {w : World} {t bl bv : Nat} {L : List (Int × Int)} {V : List (Int × (Int × Int))} (h : TableAt w t bl bv L V) (o : Obj) : TableAt (w.alloc o) t bl bv L V :=
  h.kept ((Upd.refl [] w).alloc o) (by simp) (by simp) (by simp)
theorem TableAt.drewN {w : World} {t bl bv : Nat} {L : List (Int × Int)} {V : List (Int × (Int × Int))} (h : TableAt w t bl bv L V) (n : Nat) : TableAt (w.drewN n) t bl bv L V := ⟨h.cells, h.last, h.live, h.d1, h.d2, h.d3⟩
theorem TableAt.drew {w : World} {t bl bv : Nat} {L : List (Int × Int)} {V : List (Int × (Int × Int))} (h : TableAt w t bl bv L V) : TableAt w.drew t bl bv L V := ⟨h.cells, h.last, h.live, h.d1, h.d2, h.d3⟩
theorem TableAt.lts {w : World} {t bl bv : Nat} {L : List (Int × Int)} {V : List (Int × (Int × Int))} (h : TableAt w t bl bv L V) : t < w.heap.size ∧ bl < w.heap.size ∧ bv < w.heap.size :=
  ⟨lt_of_heap h.cells, h.last.lt, h.live.lt⟩
end Go.Proofs.Ytgleceijdedlkaa
