/- insn.Reads: which registers an instruction reads, rising, each once. -/
import Derived.Test.YtibghcmkmbamjaaPIx9
import Derived.Test.YtibghcmkmbamjaaPIx5
import Derived.Test.YtibghcmkmbamjaaRegs
import Derived.Test.YtibghcmkmbamjaaSepLib
import Derived.WalkSmall
namespace Go.Proofs.Ytibghcmkmbamjaa.PI
open Go.RowKit Go.Proofs.YtibghcmkmbamjaaW.PrintWords Go.Proofs.YtibghcmkmbamjaaW.PrintLast Go.Proofs.YtibghcmkmbamjaaW.PrintMore Go.Proofs.Ytibghcmkmbamjaa
set_option linter.unusedVariables false
set_option linter.unusedSimpArgs false
set_option linter.unusedSectionVars false
def readsL (t c : Int) (x : Bool) (d s : Int) : List Int := if t = 5 ∨ c ≠ 11 then (if x then [d, s] else [d]) else (if x then [s] else [])
def insn_Reads.f (k : Nat) (a0_0 : Int) (a0_1 : Int) (a0_2 : Int) (a0_3 : Int) (a0_4 : Int) : Option (List Int) := (insn_Kind.f k a0_0 a0_1 a0_2 a0_3 a0_4).bind fun t => if t = 1 ∨ t = 5 then (insn_Code.f a0_0 a0_1 a0_2 a0_3 a0_4).bind fun c => (insn_bitX.f a0_0 a0_1 a0_2 a0_3 a0_4).bind fun x => some (regsL (readsL t c x a0_1 a0_2)) else if t = 2 then some [a0_2] else if t = 3 then some [a0_1] else if t = 4 then some (two8 a0_1 a0_2) else if t = 8 then some [0] else some []
theorem insn_Reads.mono : ∀ a0 a1 a2 a3 a4 k, LeO (insn_Reads.f k a0 a1 a2 a3 a4) (insn_Reads.f (k + 1) a0 a1 a2 a3 a4) := by
 intro a0 a1 a2 a3 a4 k
 unfold insn_Reads.f
 exact LeO.bind (insn_Kind.mono _ _ _ _ _ _) (fun _ => LeO.refl _)
def enc8 (x : Int) : List Value := [.int .u8 x]
theorem up_below {w0 w w' : World} (u : Upd [] w0 w) (h : Below w0.heap.size w w') : Upd [] w0 w' :=
  ⟨h.os.trans u.os, h.tape.trans u.tape, h.output.trans u.output, Nat.le_trans u.size h.size, fun i hi hn => (h.block i hi).trans (u.block i hi hn)⟩
theorem below_up {w w' : World} (u : Upd [] w w') : Below w.heap.size w w' := ⟨u.os, u.tape, u.output, u.size, fun i hi => u.block i hi (by simp)⟩
theorem gRegs (w0 w : World) (v : Value) (xs : List Int) (hl : xs.length ≤ 2) (u : Upd [] w0 w) (h : (Kd.int .u8).R 5 w w0.heap.size (fun _ => True) v xs) :
    Calls Try.prog 59 #[v] w fun e w' => ∃ v', e = .returned v' ∧ (Kd.int .u8).R 5 w' w0.heap.size (fun _ => True) v' (regsL xs) ∧ Below w0.heap.size w0 w' :=
  (regsR.calls w0.heap.size _ v xs hl w u.size h).mono fun e w' ⟨v', h1, h2, h3⟩ => ⟨v', h1, h2, below_up (up_below u h3)⟩
theorem flat8 (xs : List Int) : (xs.map enc8).flatten = encs (Value.int .u8) xs := by
  induction xs with
  | nil => rfl
  | cons x xs ih =>
    rw [List.map_cons, List.flatten_cons, ih]
    rfl
theorem row_Kd {w0 w : World} {v : Value} {xs : List Int} {T : Res} {K : List (Nat × Obj)} (h : SepK w0 w K (star (rowR 5 1 v (xs.map enc8)) T)) : (Kd.int .u8).R 5 w w0.heap.size (fun _ => True) v xs := by
  obtain ⟨u, A, B, h1, ⟨C, D, ⟨k1, k2, k3⟩, k4, k5, k6, k7⟩, h3, h4, h5⟩ := h
  refine Kd.R_of_own ?_ (fun _ _ => trivial)
  have e := flat8 xs
  have e2 : (xs.map enc8).length = xs.length := by simp
  rw [e, e2] at k1
  refine ⟨k1.1, ?_⟩
  rcases k1.2 with ⟨q1, q2⟩ | ⟨g, cap, cur, q1, q2, q3⟩
  · exact .inl ⟨q1, q2⟩
  · exact .inr ⟨g, cap, cur, q1, h4 _ (k5 _ (k3 g (by rw [q1]; rfl))), q3⟩
theorem lit1 {w : World} {B : Nat} (hB : B ≤ w.heap.size) (x : Int) : (Kd.int .u8).R 5 (w.alloc (.cells #[.int .u8 x] 5)) B (fun _ => True) (.slice (some ⟨w.heap.size, 0, none⟩) 1 1) [x] :=
  nums_row hB (heap_alloc_new w _) (by omega) (by decide) rfl rfl rfl
theorem lit2 {w : World} {B : Nat} (hB : B ≤ w.heap.size) (x y : Int) : (Kd.int .u8).R 5 (w.alloc (.cells #[.int .u8 x, .int .u8 y] 5)) B (fun _ => True) (.slice (some ⟨w.heap.size, 0, none⟩) 2 2) [x, y] :=
  nums_row hB (heap_alloc_new w _) (by omega) (by decide) rfl rfl rfl
theorem info5p : ∃ i, Try.prog.info? 5 = some i ∧ i.zero = some (.int .u8 0) ∧ i.size = 1 ∧ i.bytes = 1 := by
  have := info5
  cases h : Try.prog.info? 5 with
  | none => rw [h] at this; cases this
  | some i =>
    rw [h] at this
    simp only [Option.map_some, Option.some.injEq, Prod.mk.injEq] at this
    exact ⟨i, rfl, this.1, this.2.1, this.2.2⟩
section
variable (k : Nat) (op D S O M : Int) (w : World)
set_option maxHeartbeats 4000000 in
set_option maxRecDepth 100000 in
theorem reads_5_n_f (hk : insn_Kind.f k op D S O M = some 5) (hx : insn_bitX.f op D S O M = some false) :
    Calls Try.prog 30 #[.agg #[.int .u8 op, .int .u8 D, .int .u8 S, .int .i16 O, .int .i32 M]] w fun e w' => ∃ v0_ : Value, e = .returned v0_ ∧ (Kd.int .u8).R 5 w' w.heap.size (fun _ => True) v0_ (regsL ([D] : List Int)) ∧ Below w.heap.size w w' := by
  obtain ⟨i0, hi0, hz0, hz1, hz2⟩ := info5p
  have hh := ((SepK.start w).alloc (Obj.cells #[.int .u8 op, .int .u8 D, .int .u8 S, .int .i16 O, .int .i32 M] 24)).row0 5 1
  go_enter Try.func30, Try.ntmps30
  go_wp2_with fail
  refine (insn_Kind.calls k op D S O M 5 _ hk).mono ?_
  rintro e w1 ⟨rfl, hb⟩
  replace hh := hh.upd (up_below (Upd.refl [] _) hb)
  clear hb
  have fb := hh.blk (b := w.heap.size) (o := Obj.cells #[.int .u8 op, .int .u8 D, .int .u8 S, .int .i16 O, .int .i32 M] 24 (0, 0)) (by simp); have k0 := cell_of fb 0; have k1 := cell_of fb 1; have k2 := cell_of fb 2; have k3 := cell_of fb 3; have k4 := cell_of fb 4; have lb := lt_of_heap fb; simp only [List.getElem?_toArray, List.getElem?_cons_zero, List.getElem?_cons_succ] at k0 k1 k2 k3 k4; clear fb
  have h2 := hh.alloc (.cells #[.int .u8 D] 5)
  go_wp2_with (at_builtin; refine wl_append rfl (.tmp 18) (.tmp 21) 39 rfl 5 i0 (.int .u8 0) 1 1 Try.underlying39 hi0 hz0 hz1 hz2 rfl (by decide) _ _ rfl h2 ⟨_, 0, none⟩ 1 [.int .u8 D] rfl rfl (cell_one_new _ _ _) (fun x hx => by simp at hx; rw [hx]; rfl) (by unfold maxLen; simp) (by simp) ?_; intro v1 w5 h8; replace hh := h8.drop [(w.heap.size, Obj.cells #[.int .u8 op, .int .u8 D, .int .u8 S, .int .i16 O, .int .i32 M] 24 (0, 0))] (fun p hp => List.mem_cons_of_mem _ hp); clear h8 h2; clear k0 k1 k2 k3 k4 lb; have fb := hh.blk (b := w.heap.size) (o := Obj.cells #[.int .u8 op, .int .u8 D, .int .u8 S, .int .i16 O, .int .i32 M] 24 (0, 0)) (by simp); have k0 := cell_of fb 0; have k1 := cell_of fb 1; have k2 := cell_of fb 2; have k3 := cell_of fb 3; have k4 := cell_of fb 4; have lb := lt_of_heap fb; simp only [List.getElem?_toArray, List.getElem?_cons_zero, List.getElem?_cons_succ] at k0 k1 k2 k3 k4; clear fb)
  refine (insn_bitX.calls op D S O M false _ hx).mono ?_
  rintro e w3 ⟨rfl, hb⟩
  replace hh := hh.upd (up_below (Upd.refl [] _) hb)
  clear hb
  clear k0 k1 k2 k3 k4 lb
  have fb := hh.blk (b := w.heap.size) (o := Obj.cells #[.int .u8 op, .int .u8 D, .int .u8 S, .int .i16 O, .int .i32 M] 24 (0, 0)) (by simp); have k0 := cell_of fb 0; have k1 := cell_of fb 1; have k2 := cell_of fb 2; have k3 := cell_of fb 3; have k4 := cell_of fb 4; have lb := lt_of_heap fb; simp only [List.getElem?_toArray, List.getElem?_cons_zero, List.getElem?_cons_succ] at k0 k1 k2 k3 k4; clear fb
  go_wp2_with fail
  have hK := row_Kd (xs := [D]) hh
  refine (gRegs w _ _ [D] (by simp) hh.u hK).mono ?_
  rintro e w9 ⟨v', rfl, hR, hB⟩
  go_wp2_with fail
  go_ret
  exact ⟨v', rfl, hR, hB⟩

set_option maxHeartbeats 4000000 in
set_option maxRecDepth 100000 in
theorem reads_5_n_t (hk : insn_Kind.f k op D S O M = some 5) (hx : insn_bitX.f op D S O M = some true) :
    Calls Try.prog 30 #[.agg #[.int .u8 op, .int .u8 D, .int .u8 S, .int .i16 O, .int .i32 M]] w fun e w' => ∃ v0_ : Value, e = .returned v0_ ∧ (Kd.int .u8).R 5 w' w.heap.size (fun _ => True) v0_ (regsL ([D, S] : List Int)) ∧ Below w.heap.size w w' := by
  obtain ⟨i0, hi0, hz0, hz1, hz2⟩ := info5p
  have hh := ((SepK.start w).alloc (Obj.cells #[.int .u8 op, .int .u8 D, .int .u8 S, .int .i16 O, .int .i32 M] 24)).row0 5 1
  go_enter Try.func30, Try.ntmps30
  go_wp2_with fail
  refine (insn_Kind.calls k op D S O M 5 _ hk).mono ?_
  rintro e w1 ⟨rfl, hb⟩
  replace hh := hh.upd (up_below (Upd.refl [] _) hb)
  clear hb
  have fb := hh.blk (b := w.heap.size) (o := Obj.cells #[.int .u8 op, .int .u8 D, .int .u8 S, .int .i16 O, .int .i32 M] 24 (0, 0)) (by simp); have k0 := cell_of fb 0; have k1 := cell_of fb 1; have k2 := cell_of fb 2; have k3 := cell_of fb 3; have k4 := cell_of fb 4; have lb := lt_of_heap fb; simp only [List.getElem?_toArray, List.getElem?_cons_zero, List.getElem?_cons_succ] at k0 k1 k2 k3 k4; clear fb
  have h2 := hh.alloc (.cells #[.int .u8 D] 5)
  go_wp2_with (at_builtin; refine wl_append rfl (.tmp 18) (.tmp 21) 39 rfl 5 i0 (.int .u8 0) 1 1 Try.underlying39 hi0 hz0 hz1 hz2 rfl (by decide) _ _ rfl h2 ⟨_, 0, none⟩ 1 [.int .u8 D] rfl rfl (cell_one_new _ _ _) (fun x hx => by simp at hx; rw [hx]; rfl) (by unfold maxLen; simp) (by simp) ?_; intro v1 w5 h8; replace hh := h8.drop [(w.heap.size, Obj.cells #[.int .u8 op, .int .u8 D, .int .u8 S, .int .i16 O, .int .i32 M] 24 (0, 0))] (fun p hp => List.mem_cons_of_mem _ hp); clear h8 h2; clear k0 k1 k2 k3 k4 lb; have fb := hh.blk (b := w.heap.size) (o := Obj.cells #[.int .u8 op, .int .u8 D, .int .u8 S, .int .i16 O, .int .i32 M] 24 (0, 0)) (by simp); have k0 := cell_of fb 0; have k1 := cell_of fb 1; have k2 := cell_of fb 2; have k3 := cell_of fb 3; have k4 := cell_of fb 4; have lb := lt_of_heap fb; simp only [List.getElem?_toArray, List.getElem?_cons_zero, List.getElem?_cons_succ] at k0 k1 k2 k3 k4; clear fb)
  refine (insn_bitX.calls op D S O M true _ hx).mono ?_
  rintro e w3 ⟨rfl, hb⟩
  replace hh := hh.upd (up_below (Upd.refl [] _) hb)
  clear hb
  clear k0 k1 k2 k3 k4 lb
  have fb := hh.blk (b := w.heap.size) (o := Obj.cells #[.int .u8 op, .int .u8 D, .int .u8 S, .int .i16 O, .int .i32 M] 24 (0, 0)) (by simp); have k0 := cell_of fb 0; have k1 := cell_of fb 1; have k2 := cell_of fb 2; have k3 := cell_of fb 3; have k4 := cell_of fb 4; have lb := lt_of_heap fb; simp only [List.getElem?_toArray, List.getElem?_cons_zero, List.getElem?_cons_succ] at k0 k1 k2 k3 k4; clear fb
  have h2 := hh.alloc (.cells #[.int .u8 S] 5)
  go_wp2_with (at_builtin; refine wl_append rfl (.tmp 25) (.tmp 28) 39 rfl 5 i0 (.int .u8 0) 1 1 Try.underlying39 hi0 hz0 hz1 hz2 rfl (by decide) _ _ rfl h2 ⟨_, 0, none⟩ 1 [.int .u8 S] rfl rfl (cell_one_new _ _ _) (fun x hx => by simp at hx; rw [hx]; rfl) (by unfold maxLen; simp) (by simp) ?_; intro v1 w5 h8; replace hh := h8.drop [(w.heap.size, Obj.cells #[.int .u8 op, .int .u8 D, .int .u8 S, .int .i16 O, .int .i32 M] 24 (0, 0))] (fun p hp => List.mem_cons_of_mem _ hp); clear h8 h2; clear k0 k1 k2 k3 k4 lb; have fb := hh.blk (b := w.heap.size) (o := Obj.cells #[.int .u8 op, .int .u8 D, .int .u8 S, .int .i16 O, .int .i32 M] 24 (0, 0)) (by simp); have k0 := cell_of fb 0; have k1 := cell_of fb 1; have k2 := cell_of fb 2; have k3 := cell_of fb 3; have k4 := cell_of fb 4; have lb := lt_of_heap fb; simp only [List.getElem?_toArray, List.getElem?_cons_zero, List.getElem?_cons_succ] at k0 k1 k2 k3 k4; clear fb)
  have hK := row_Kd (xs := [D, S]) hh
  refine (gRegs w _ _ [D, S] (by simp) hh.u hK).mono ?_
  rintro e w9 ⟨v', rfl, hR, hB⟩
  go_wp2_with fail
  go_ret
  exact ⟨v', rfl, hR, hB⟩

set_option maxHeartbeats 4000000 in
set_option maxRecDepth 100000 in
theorem reads_1_m_f (hk : insn_Kind.f k op D S O M = some 1) (hc : op / 16 = 11) (hx : insn_bitX.f op D S O M = some false) :
    Calls Try.prog 30 #[.agg #[.int .u8 op, .int .u8 D, .int .u8 S, .int .i16 O, .int .i32 M]] w fun e w' => ∃ v0_ : Value, e = .returned v0_ ∧ (Kd.int .u8).R 5 w' w.heap.size (fun _ => True) v0_ (regsL ([] : List Int)) ∧ Below w.heap.size w w' := by
  have hcb : (op / 16 != 11) = false := by simp [hc]
  obtain ⟨i0, hi0, hz0, hz1, hz2⟩ := info5p
  have hh := ((SepK.start w).alloc (Obj.cells #[.int .u8 op, .int .u8 D, .int .u8 S, .int .i16 O, .int .i32 M] 24)).row0 5 1
  go_enter Try.func30, Try.ntmps30
  go_wp2_with fail
  refine (insn_Kind.calls k op D S O M 1 _ hk).mono ?_
  rintro e w1 ⟨rfl, hb⟩
  replace hh := hh.upd (up_below (Upd.refl [] _) hb)
  clear hb
  have fb := hh.blk (b := w.heap.size) (o := Obj.cells #[.int .u8 op, .int .u8 D, .int .u8 S, .int .i16 O, .int .i32 M] 24 (0, 0)) (by simp); have k0 := cell_of fb 0; have k1 := cell_of fb 1; have k2 := cell_of fb 2; have k3 := cell_of fb 3; have k4 := cell_of fb 4; have lb := lt_of_heap fb; simp only [List.getElem?_toArray, List.getElem?_cons_zero, List.getElem?_cons_succ] at k0 k1 k2 k3 k4; clear fb
  go_wp2_with fail
  refine (insn_Code.calls op D S O M (op / 16) _ rfl).mono ?_
  rintro e w2 ⟨rfl, hb⟩
  replace hh := hh.upd (up_below (Upd.refl [] _) hb)
  clear hb
  clear k0 k1 k2 k3 k4 lb
  have fb := hh.blk (b := w.heap.size) (o := Obj.cells #[.int .u8 op, .int .u8 D, .int .u8 S, .int .i16 O, .int .i32 M] 24 (0, 0)) (by simp); have k0 := cell_of fb 0; have k1 := cell_of fb 1; have k2 := cell_of fb 2; have k3 := cell_of fb 3; have k4 := cell_of fb 4; have lb := lt_of_heap fb; simp only [List.getElem?_toArray, List.getElem?_cons_zero, List.getElem?_cons_succ] at k0 k1 k2 k3 k4; clear fb
  go_wp2_with fail
  refine (insn_bitX.calls op D S O M false _ hx).mono ?_
  rintro e w3 ⟨rfl, hb⟩
  replace hh := hh.upd (up_below (Upd.refl [] _) hb)
  clear hb
  clear k0 k1 k2 k3 k4 lb
  have fb := hh.blk (b := w.heap.size) (o := Obj.cells #[.int .u8 op, .int .u8 D, .int .u8 S, .int .i16 O, .int .i32 M] 24 (0, 0)) (by simp); have k0 := cell_of fb 0; have k1 := cell_of fb 1; have k2 := cell_of fb 2; have k3 := cell_of fb 3; have k4 := cell_of fb 4; have lb := lt_of_heap fb; simp only [List.getElem?_toArray, List.getElem?_cons_zero, List.getElem?_cons_succ] at k0 k1 k2 k3 k4; clear fb
  go_wp2_with fail
  have hK := row_Kd (xs := []) hh
  refine (gRegs w _ _ [] (by simp) hh.u hK).mono ?_
  rintro e w9 ⟨v', rfl, hR, hB⟩
  go_wp2_with fail
  go_ret
  exact ⟨v', rfl, hR, hB⟩

set_option maxHeartbeats 4000000 in
set_option maxRecDepth 100000 in
theorem reads_1_m_t (hk : insn_Kind.f k op D S O M = some 1) (hc : op / 16 = 11) (hx : insn_bitX.f op D S O M = some true) :
    Calls Try.prog 30 #[.agg #[.int .u8 op, .int .u8 D, .int .u8 S, .int .i16 O, .int .i32 M]] w fun e w' => ∃ v0_ : Value, e = .returned v0_ ∧ (Kd.int .u8).R 5 w' w.heap.size (fun _ => True) v0_ (regsL ([S] : List Int)) ∧ Below w.heap.size w w' := by
  have hcb : (op / 16 != 11) = false := by simp [hc]
  obtain ⟨i0, hi0, hz0, hz1, hz2⟩ := info5p
  have hh := ((SepK.start w).alloc (Obj.cells #[.int .u8 op, .int .u8 D, .int .u8 S, .int .i16 O, .int .i32 M] 24)).row0 5 1
  go_enter Try.func30, Try.ntmps30
  go_wp2_with fail
  refine (insn_Kind.calls k op D S O M 1 _ hk).mono ?_
  rintro e w1 ⟨rfl, hb⟩
  replace hh := hh.upd (up_below (Upd.refl [] _) hb)
  clear hb
  have fb := hh.blk (b := w.heap.size) (o := Obj.cells #[.int .u8 op, .int .u8 D, .int .u8 S, .int .i16 O, .int .i32 M] 24 (0, 0)) (by simp); have k0 := cell_of fb 0; have k1 := cell_of fb 1; have k2 := cell_of fb 2; have k3 := cell_of fb 3; have k4 := cell_of fb 4; have lb := lt_of_heap fb; simp only [List.getElem?_toArray, List.getElem?_cons_zero, List.getElem?_cons_succ] at k0 k1 k2 k3 k4; clear fb
  go_wp2_with fail
  refine (insn_Code.calls op D S O M (op / 16) _ rfl).mono ?_
  rintro e w2 ⟨rfl, hb⟩
  replace hh := hh.upd (up_below (Upd.refl [] _) hb)
  clear hb
  clear k0 k1 k2 k3 k4 lb
  have fb := hh.blk (b := w.heap.size) (o := Obj.cells #[.int .u8 op, .int .u8 D, .int .u8 S, .int .i16 O, .int .i32 M] 24 (0, 0)) (by simp); have k0 := cell_of fb 0; have k1 := cell_of fb 1; have k2 := cell_of fb 2; have k3 := cell_of fb 3; have k4 := cell_of fb 4; have lb := lt_of_heap fb; simp only [List.getElem?_toArray, List.getElem?_cons_zero, List.getElem?_cons_succ] at k0 k1 k2 k3 k4; clear fb
  go_wp2_with fail
  refine (insn_bitX.calls op D S O M true _ hx).mono ?_
  rintro e w3 ⟨rfl, hb⟩
  replace hh := hh.upd (up_below (Upd.refl [] _) hb)
  clear hb
  clear k0 k1 k2 k3 k4 lb
  have fb := hh.blk (b := w.heap.size) (o := Obj.cells #[.int .u8 op, .int .u8 D, .int .u8 S, .int .i16 O, .int .i32 M] 24 (0, 0)) (by simp); have k0 := cell_of fb 0; have k1 := cell_of fb 1; have k2 := cell_of fb 2; have k3 := cell_of fb 3; have k4 := cell_of fb 4; have lb := lt_of_heap fb; simp only [List.getElem?_toArray, List.getElem?_cons_zero, List.getElem?_cons_succ] at k0 k1 k2 k3 k4; clear fb
  have h2 := hh.alloc (.cells #[.int .u8 S] 5)
  go_wp2_with (at_builtin; refine wl_append rfl (.tmp 25) (.tmp 28) 39 rfl 5 i0 (.int .u8 0) 1 1 Try.underlying39 hi0 hz0 hz1 hz2 rfl (by decide) _ _ rfl h2 ⟨_, 0, none⟩ 1 [.int .u8 S] rfl rfl (cell_one_new _ _ _) (fun x hx => by simp at hx; rw [hx]; rfl) (by unfold maxLen; simp) (by simp) ?_; intro v1 w5 h8; replace hh := h8.drop [(w.heap.size, Obj.cells #[.int .u8 op, .int .u8 D, .int .u8 S, .int .i16 O, .int .i32 M] 24 (0, 0))] (fun p hp => List.mem_cons_of_mem _ hp); clear h8 h2; clear k0 k1 k2 k3 k4 lb; have fb := hh.blk (b := w.heap.size) (o := Obj.cells #[.int .u8 op, .int .u8 D, .int .u8 S, .int .i16 O, .int .i32 M] 24 (0, 0)) (by simp); have k0 := cell_of fb 0; have k1 := cell_of fb 1; have k2 := cell_of fb 2; have k3 := cell_of fb 3; have k4 := cell_of fb 4; have lb := lt_of_heap fb; simp only [List.getElem?_toArray, List.getElem?_cons_zero, List.getElem?_cons_succ] at k0 k1 k2 k3 k4; clear fb)
  have hK := row_Kd (xs := [S]) hh
  refine (gRegs w _ _ [S] (by simp) hh.u hK).mono ?_
  rintro e w9 ⟨v', rfl, hR, hB⟩
  go_wp2_with fail
  go_ret
  exact ⟨v', rfl, hR, hB⟩

set_option maxHeartbeats 4000000 in
set_option maxRecDepth 100000 in
theorem reads_1_n_f (hk : insn_Kind.f k op D S O M = some 1) (hc : op / 16 ≠ 11) (hx : insn_bitX.f op D S O M = some false) :
    Calls Try.prog 30 #[.agg #[.int .u8 op, .int .u8 D, .int .u8 S, .int .i16 O, .int .i32 M]] w fun e w' => ∃ v0_ : Value, e = .returned v0_ ∧ (Kd.int .u8).R 5 w' w.heap.size (fun _ => True) v0_ (regsL ([D] : List Int)) ∧ Below w.heap.size w w' := by
  have hcb : (op / 16 != 11) = true := by simp; exact hc
  obtain ⟨i0, hi0, hz0, hz1, hz2⟩ := info5p
  have hh := ((SepK.start w).alloc (Obj.cells #[.int .u8 op, .int .u8 D, .int .u8 S, .int .i16 O, .int .i32 M] 24)).row0 5 1
  go_enter Try.func30, Try.ntmps30
  go_wp2_with fail
  refine (insn_Kind.calls k op D S O M 1 _ hk).mono ?_
  rintro e w1 ⟨rfl, hb⟩
  replace hh := hh.upd (up_below (Upd.refl [] _) hb)
  clear hb
  have fb := hh.blk (b := w.heap.size) (o := Obj.cells #[.int .u8 op, .int .u8 D, .int .u8 S, .int .i16 O, .int .i32 M] 24 (0, 0)) (by simp); have k0 := cell_of fb 0; have k1 := cell_of fb 1; have k2 := cell_of fb 2; have k3 := cell_of fb 3; have k4 := cell_of fb 4; have lb := lt_of_heap fb; simp only [List.getElem?_toArray, List.getElem?_cons_zero, List.getElem?_cons_succ] at k0 k1 k2 k3 k4; clear fb
  go_wp2_with fail
  refine (insn_Code.calls op D S O M (op / 16) _ rfl).mono ?_
  rintro e w2 ⟨rfl, hb⟩
  replace hh := hh.upd (up_below (Upd.refl [] _) hb)
  clear hb
  clear k0 k1 k2 k3 k4 lb
  have fb := hh.blk (b := w.heap.size) (o := Obj.cells #[.int .u8 op, .int .u8 D, .int .u8 S, .int .i16 O, .int .i32 M] 24 (0, 0)) (by simp); have k0 := cell_of fb 0; have k1 := cell_of fb 1; have k2 := cell_of fb 2; have k3 := cell_of fb 3; have k4 := cell_of fb 4; have lb := lt_of_heap fb; simp only [List.getElem?_toArray, List.getElem?_cons_zero, List.getElem?_cons_succ] at k0 k1 k2 k3 k4; clear fb
  have h2 := hh.alloc (.cells #[.int .u8 D] 5)
  go_wp2_with (at_builtin; refine wl_append rfl (.tmp 18) (.tmp 21) 39 rfl 5 i0 (.int .u8 0) 1 1 Try.underlying39 hi0 hz0 hz1 hz2 rfl (by decide) _ _ rfl h2 ⟨_, 0, none⟩ 1 [.int .u8 D] rfl rfl (cell_one_new _ _ _) (fun x hx => by simp at hx; rw [hx]; rfl) (by unfold maxLen; simp) (by simp) ?_; intro v1 w5 h8; replace hh := h8.drop [(w.heap.size, Obj.cells #[.int .u8 op, .int .u8 D, .int .u8 S, .int .i16 O, .int .i32 M] 24 (0, 0))] (fun p hp => List.mem_cons_of_mem _ hp); clear h8 h2; clear k0 k1 k2 k3 k4 lb; have fb := hh.blk (b := w.heap.size) (o := Obj.cells #[.int .u8 op, .int .u8 D, .int .u8 S, .int .i16 O, .int .i32 M] 24 (0, 0)) (by simp); have k0 := cell_of fb 0; have k1 := cell_of fb 1; have k2 := cell_of fb 2; have k3 := cell_of fb 3; have k4 := cell_of fb 4; have lb := lt_of_heap fb; simp only [List.getElem?_toArray, List.getElem?_cons_zero, List.getElem?_cons_succ] at k0 k1 k2 k3 k4; clear fb)
  refine (insn_bitX.calls op D S O M false _ hx).mono ?_
  rintro e w3 ⟨rfl, hb⟩
  replace hh := hh.upd (up_below (Upd.refl [] _) hb)
  clear hb
  clear k0 k1 k2 k3 k4 lb
  have fb := hh.blk (b := w.heap.size) (o := Obj.cells #[.int .u8 op, .int .u8 D, .int .u8 S, .int .i16 O, .int .i32 M] 24 (0, 0)) (by simp); have k0 := cell_of fb 0; have k1 := cell_of fb 1; have k2 := cell_of fb 2; have k3 := cell_of fb 3; have k4 := cell_of fb 4; have lb := lt_of_heap fb; simp only [List.getElem?_toArray, List.getElem?_cons_zero, List.getElem?_cons_succ] at k0 k1 k2 k3 k4; clear fb
  go_wp2_with fail
  have hK := row_Kd (xs := [D]) hh
  refine (gRegs w _ _ [D] (by simp) hh.u hK).mono ?_
  rintro e w9 ⟨v', rfl, hR, hB⟩
  go_wp2_with fail
  go_ret
  exact ⟨v', rfl, hR, hB⟩

set_option maxHeartbeats 4000000 in
set_option maxRecDepth 100000 in
theorem reads_1_n_t (hk : insn_Kind.f k op D S O M = some 1) (hc : op / 16 ≠ 11) (hx : insn_bitX.f op D S O M = some true) :
    Calls Try.prog 30 #[.agg #[.int .u8 op, .int .u8 D, .int .u8 S, .int .i16 O, .int .i32 M]] w fun e w' => ∃ v0_ : Value, e = .returned v0_ ∧ (Kd.int .u8).R 5 w' w.heap.size (fun _ => True) v0_ (regsL ([D, S] : List Int)) ∧ Below w.heap.size w w' := by
  have hcb : (op / 16 != 11) = true := by simp; exact hc
  obtain ⟨i0, hi0, hz0, hz1, hz2⟩ := info5p
  have hh := ((SepK.start w).alloc (Obj.cells #[.int .u8 op, .int .u8 D, .int .u8 S, .int .i16 O, .int .i32 M] 24)).row0 5 1
  go_enter Try.func30, Try.ntmps30
  go_wp2_with fail
  refine (insn_Kind.calls k op D S O M 1 _ hk).mono ?_
  rintro e w1 ⟨rfl, hb⟩
  replace hh := hh.upd (up_below (Upd.refl [] _) hb)
  clear hb
  have fb := hh.blk (b := w.heap.size) (o := Obj.cells #[.int .u8 op, .int .u8 D, .int .u8 S, .int .i16 O, .int .i32 M] 24 (0, 0)) (by simp); have k0 := cell_of fb 0; have k1 := cell_of fb 1; have k2 := cell_of fb 2; have k3 := cell_of fb 3; have k4 := cell_of fb 4; have lb := lt_of_heap fb; simp only [List.getElem?_toArray, List.getElem?_cons_zero, List.getElem?_cons_succ] at k0 k1 k2 k3 k4; clear fb
  go_wp2_with fail
  refine (insn_Code.calls op D S O M (op / 16) _ rfl).mono ?_
  rintro e w2 ⟨rfl, hb⟩
  replace hh := hh.upd (up_below (Upd.refl [] _) hb)
  clear hb
  clear k0 k1 k2 k3 k4 lb
  have fb := hh.blk (b := w.heap.size) (o := Obj.cells #[.int .u8 op, .int .u8 D, .int .u8 S, .int .i16 O, .int .i32 M] 24 (0, 0)) (by simp); have k0 := cell_of fb 0; have k1 := cell_of fb 1; have k2 := cell_of fb 2; have k3 := cell_of fb 3; have k4 := cell_of fb 4; have lb := lt_of_heap fb; simp only [List.getElem?_toArray, List.getElem?_cons_zero, List.getElem?_cons_succ] at k0 k1 k2 k3 k4; clear fb
  have h2 := hh.alloc (.cells #[.int .u8 D] 5)
  go_wp2_with (at_builtin; refine wl_append rfl (.tmp 18) (.tmp 21) 39 rfl 5 i0 (.int .u8 0) 1 1 Try.underlying39 hi0 hz0 hz1 hz2 rfl (by decide) _ _ rfl h2 ⟨_, 0, none⟩ 1 [.int .u8 D] rfl rfl (cell_one_new _ _ _) (fun x hx => by simp at hx; rw [hx]; rfl) (by unfold maxLen; simp) (by simp) ?_; intro v1 w5 h8; replace hh := h8.drop [(w.heap.size, Obj.cells #[.int .u8 op, .int .u8 D, .int .u8 S, .int .i16 O, .int .i32 M] 24 (0, 0))] (fun p hp => List.mem_cons_of_mem _ hp); clear h8 h2; clear k0 k1 k2 k3 k4 lb; have fb := hh.blk (b := w.heap.size) (o := Obj.cells #[.int .u8 op, .int .u8 D, .int .u8 S, .int .i16 O, .int .i32 M] 24 (0, 0)) (by simp); have k0 := cell_of fb 0; have k1 := cell_of fb 1; have k2 := cell_of fb 2; have k3 := cell_of fb 3; have k4 := cell_of fb 4; have lb := lt_of_heap fb; simp only [List.getElem?_toArray, List.getElem?_cons_zero, List.getElem?_cons_succ] at k0 k1 k2 k3 k4; clear fb)
  refine (insn_bitX.calls op D S O M true _ hx).mono ?_
  rintro e w3 ⟨rfl, hb⟩
  replace hh := hh.upd (up_below (Upd.refl [] _) hb)
  clear hb
  clear k0 k1 k2 k3 k4 lb
  have fb := hh.blk (b := w.heap.size) (o := Obj.cells #[.int .u8 op, .int .u8 D, .int .u8 S, .int .i16 O, .int .i32 M] 24 (0, 0)) (by simp); have k0 := cell_of fb 0; have k1 := cell_of fb 1; have k2 := cell_of fb 2; have k3 := cell_of fb 3; have k4 := cell_of fb 4; have lb := lt_of_heap fb; simp only [List.getElem?_toArray, List.getElem?_cons_zero, List.getElem?_cons_succ] at k0 k1 k2 k3 k4; clear fb
  have h2 := hh.alloc (.cells #[.int .u8 S] 5)
  go_wp2_with (at_builtin; refine wl_append rfl (.tmp 25) (.tmp 28) 39 rfl 5 i0 (.int .u8 0) 1 1 Try.underlying39 hi0 hz0 hz1 hz2 rfl (by decide) _ _ rfl h2 ⟨_, 0, none⟩ 1 [.int .u8 S] rfl rfl (cell_one_new _ _ _) (fun x hx => by simp at hx; rw [hx]; rfl) (by unfold maxLen; simp) (by simp) ?_; intro v1 w5 h8; replace hh := h8.drop [(w.heap.size, Obj.cells #[.int .u8 op, .int .u8 D, .int .u8 S, .int .i16 O, .int .i32 M] 24 (0, 0))] (fun p hp => List.mem_cons_of_mem _ hp); clear h8 h2; clear k0 k1 k2 k3 k4 lb; have fb := hh.blk (b := w.heap.size) (o := Obj.cells #[.int .u8 op, .int .u8 D, .int .u8 S, .int .i16 O, .int .i32 M] 24 (0, 0)) (by simp); have k0 := cell_of fb 0; have k1 := cell_of fb 1; have k2 := cell_of fb 2; have k3 := cell_of fb 3; have k4 := cell_of fb 4; have lb := lt_of_heap fb; simp only [List.getElem?_toArray, List.getElem?_cons_zero, List.getElem?_cons_succ] at k0 k1 k2 k3 k4; clear fb)
  have hK := row_Kd (xs := [D, S]) hh
  refine (gRegs w _ _ [D, S] (by simp) hh.u hK).mono ?_
  rintro e w9 ⟨v', rfl, hR, hB⟩
  go_wp2_with fail
  go_ret
  exact ⟨v', rfl, hR, hB⟩

set_option maxHeartbeats 4000000 in
set_option maxRecDepth 100000 in
theorem reads_2 (hk : insn_Kind.f k op D S O M = some 2) :
    Calls Try.prog 30 #[.agg #[.int .u8 op, .int .u8 D, .int .u8 S, .int .i16 O, .int .i32 M]] w fun e w' => ∃ v0_ : Value, e = .returned v0_ ∧ (Kd.int .u8).R 5 w' w.heap.size (fun _ => True) v0_ (regsL ([S] : List Int)) ∧ Below w.heap.size w w' := by
  have hh := ((SepK.start w).alloc (Obj.cells #[.int .u8 op, .int .u8 D, .int .u8 S, .int .i16 O, .int .i32 M] 24)).row0 5 1
  go_enter Try.func30, Try.ntmps30
  go_wp2_with fail
  refine (insn_Kind.calls k op D S O M 2 _ hk).mono ?_
  rintro e w1 ⟨rfl, hb⟩
  replace hh := hh.upd (up_below (Upd.refl [] _) hb)
  clear hb
  have fb := hh.blk (b := w.heap.size) (o := Obj.cells #[.int .u8 op, .int .u8 D, .int .u8 S, .int .i16 O, .int .i32 M] 24 (0, 0)) (by simp); have k0 := cell_of fb 0; have k1 := cell_of fb 1; have k2 := cell_of fb 2; have k3 := cell_of fb 3; have k4 := cell_of fb 4; have lb := lt_of_heap fb; simp only [List.getElem?_toArray, List.getElem?_cons_zero, List.getElem?_cons_succ] at k0 k1 k2 k3 k4; clear fb
  have h2 := hh.upd ((Upd.refl [] w1).alloc (.cells #[.int .u8 S] 5))
  have hK := lit1 hh.u.size S
  go_wp2_with (go_at_call 59; refine (gRegs w _ _ [S] (by simp) h2.u hK).mono ?_; rintro e w9 ⟨v', rfl, hR, hB⟩)
  go_ret
  exact ⟨v', rfl, hR, hB⟩

set_option maxHeartbeats 4000000 in
set_option maxRecDepth 100000 in
theorem reads_3 (hk : insn_Kind.f k op D S O M = some 3) :
    Calls Try.prog 30 #[.agg #[.int .u8 op, .int .u8 D, .int .u8 S, .int .i16 O, .int .i32 M]] w fun e w' => ∃ v0_ : Value, e = .returned v0_ ∧ (Kd.int .u8).R 5 w' w.heap.size (fun _ => True) v0_ (regsL ([D] : List Int)) ∧ Below w.heap.size w w' := by
  have hh := ((SepK.start w).alloc (Obj.cells #[.int .u8 op, .int .u8 D, .int .u8 S, .int .i16 O, .int .i32 M] 24)).row0 5 1
  go_enter Try.func30, Try.ntmps30
  go_wp2_with fail
  refine (insn_Kind.calls k op D S O M 3 _ hk).mono ?_
  rintro e w1 ⟨rfl, hb⟩
  replace hh := hh.upd (up_below (Upd.refl [] _) hb)
  clear hb
  have fb := hh.blk (b := w.heap.size) (o := Obj.cells #[.int .u8 op, .int .u8 D, .int .u8 S, .int .i16 O, .int .i32 M] 24 (0, 0)) (by simp); have k0 := cell_of fb 0; have k1 := cell_of fb 1; have k2 := cell_of fb 2; have k3 := cell_of fb 3; have k4 := cell_of fb 4; have lb := lt_of_heap fb; simp only [List.getElem?_toArray, List.getElem?_cons_zero, List.getElem?_cons_succ] at k0 k1 k2 k3 k4; clear fb
  have h2 := hh.upd ((Upd.refl [] w1).alloc (.cells #[.int .u8 D] 5))
  have hK := lit1 hh.u.size D
  go_wp2_with (go_at_call 59; refine (gRegs w _ _ [D] (by simp) h2.u hK).mono ?_; rintro e w9 ⟨v', rfl, hR, hB⟩)
  go_ret
  exact ⟨v', rfl, hR, hB⟩

set_option maxHeartbeats 4000000 in
set_option maxRecDepth 100000 in
theorem reads_4 (hk : insn_Kind.f k op D S O M = some 4) :
    Calls Try.prog 30 #[.agg #[.int .u8 op, .int .u8 D, .int .u8 S, .int .i16 O, .int .i32 M]] w fun e w' => ∃ v0_ : Value, e = .returned v0_ ∧ (Kd.int .u8).R 5 w' w.heap.size (fun _ => True) v0_ (regsL ([D, S] : List Int)) ∧ Below w.heap.size w w' := by
  have hh := ((SepK.start w).alloc (Obj.cells #[.int .u8 op, .int .u8 D, .int .u8 S, .int .i16 O, .int .i32 M] 24)).row0 5 1
  go_enter Try.func30, Try.ntmps30
  go_wp2_with fail
  refine (insn_Kind.calls k op D S O M 4 _ hk).mono ?_
  rintro e w1 ⟨rfl, hb⟩
  replace hh := hh.upd (up_below (Upd.refl [] _) hb)
  clear hb
  have fb := hh.blk (b := w.heap.size) (o := Obj.cells #[.int .u8 op, .int .u8 D, .int .u8 S, .int .i16 O, .int .i32 M] 24 (0, 0)) (by simp); have k0 := cell_of fb 0; have k1 := cell_of fb 1; have k2 := cell_of fb 2; have k3 := cell_of fb 3; have k4 := cell_of fb 4; have lb := lt_of_heap fb; simp only [List.getElem?_toArray, List.getElem?_cons_zero, List.getElem?_cons_succ] at k0 k1 k2 k3 k4; clear fb
  have h2 := hh.upd ((Upd.refl [] w1).alloc (.cells #[.int .u8 D, .int .u8 S] 5))
  have hK := lit2 hh.u.size D S
  go_wp2_with (go_at_call 59; refine (gRegs w _ _ [D, S] (by simp) h2.u hK).mono ?_; rintro e w9 ⟨v', rfl, hR, hB⟩)
  go_ret
  exact ⟨v', rfl, hR, hB⟩

set_option maxHeartbeats 4000000 in
set_option maxRecDepth 100000 in
theorem reads_8 (hk : insn_Kind.f k op D S O M = some 8) :
    Calls Try.prog 30 #[.agg #[.int .u8 op, .int .u8 D, .int .u8 S, .int .i16 O, .int .i32 M]] w fun e w' => ∃ v0_ : Value, e = .returned v0_ ∧ (Kd.int .u8).R 5 w' w.heap.size (fun _ => True) v0_ (regsL ([0] : List Int)) ∧ Below w.heap.size w w' := by
  have hh := ((SepK.start w).alloc (Obj.cells #[.int .u8 op, .int .u8 D, .int .u8 S, .int .i16 O, .int .i32 M] 24)).row0 5 1
  go_enter Try.func30, Try.ntmps30
  go_wp2_with fail
  refine (insn_Kind.calls k op D S O M 8 _ hk).mono ?_
  rintro e w1 ⟨rfl, hb⟩
  replace hh := hh.upd (up_below (Upd.refl [] _) hb)
  clear hb
  have fb := hh.blk (b := w.heap.size) (o := Obj.cells #[.int .u8 op, .int .u8 D, .int .u8 S, .int .i16 O, .int .i32 M] 24 (0, 0)) (by simp); have k0 := cell_of fb 0; have k1 := cell_of fb 1; have k2 := cell_of fb 2; have k3 := cell_of fb 3; have k4 := cell_of fb 4; have lb := lt_of_heap fb; simp only [List.getElem?_toArray, List.getElem?_cons_zero, List.getElem?_cons_succ] at k0 k1 k2 k3 k4; clear fb
  have h2 := hh.upd ((Upd.refl [] w1).alloc (.cells #[.int .u8 0] 5))
  have hK := lit1 hh.u.size (0 : Int)
  go_wp2_with (go_at_call 59; refine (gRegs w _ _ [0] (by simp) h2.u hK).mono ?_; rintro e w9 ⟨v', rfl, hR, hB⟩)
  go_ret
  exact ⟨v', rfl, hR, hB⟩

set_option maxHeartbeats 4000000 in
set_option maxRecDepth 100000 in
theorem reads_e (t : Int) (hk : insn_Kind.f k op D S O M = some t) (ht : t ≠ 1 ∧ t ≠ 2 ∧ t ≠ 3 ∧ t ≠ 4 ∧ t ≠ 5 ∧ t ≠ 8) :
    Calls Try.prog 30 #[.agg #[.int .u8 op, .int .u8 D, .int .u8 S, .int .i16 O, .int .i32 M]] w fun e w' => ∃ v0_ : Value, e = .returned v0_ ∧ (Kd.int .u8).R 5 w' w.heap.size (fun _ => True) v0_ ([] : List Int) ∧ Below w.heap.size w w' := by
  obtain ⟨t1, t2, t3, t4, t5, t8⟩ := ht
  have y1 : (t == 1) = false := by simpa using t1
  have y2 : (t == 2) = false := by simpa using t2
  have y3 : (t == 3) = false := by simpa using t3
  have y4 : (t == 4) = false := by simpa using t4
  have y5 : (t == 5) = false := by simpa using t5
  have y8 : (t == 8) = false := by simpa using t8
  have hh := ((SepK.start w).alloc (Obj.cells #[.int .u8 op, .int .u8 D, .int .u8 S, .int .i16 O, .int .i32 M] 24)).row0 5 1
  go_enter Try.func30, Try.ntmps30
  go_wp2_with fail
  refine (insn_Kind.calls k op D S O M t _ hk).mono ?_
  rintro e w1 ⟨rfl, hb⟩
  replace hh := hh.upd (up_below (Upd.refl [] _) hb)
  clear hb
  have fb := hh.blk (b := w.heap.size) (o := Obj.cells #[.int .u8 op, .int .u8 D, .int .u8 S, .int .i16 O, .int .i32 M] 24 (0, 0)) (by simp); have k0 := cell_of fb 0; have k1 := cell_of fb 1; have k2 := cell_of fb 2; have k3 := cell_of fb 3; have k4 := cell_of fb 4; have lb := lt_of_heap fb; simp only [List.getElem?_toArray, List.getElem?_cons_zero, List.getElem?_cons_succ] at k0 k1 k2 k3 k4; clear fb
  have hK := row_Kd (xs := []) hh
  have hB := hh.u
  go_wp2_with fail
  go_ret
  exact ⟨_, rfl, hK, below_up hB⟩

end
theorem insn_Reads.calls (k : Nat) (a0_0 : Int) (a0_1 : Int) (a0_2 : Int) (a0_3 : Int) (a0_4 : Int) (r : List Int) (w : World) (h : insn_Reads.f k a0_0 a0_1 a0_2 a0_3 a0_4 = some r) :
  Calls Try.prog 30 #[.agg #[.int .u8 a0_0, .int .u8 a0_1, .int .u8 a0_2, .int .i16 a0_3, .int .i32 a0_4]] w fun e w' => ∃ v0_ : Value, e = .returned (v0_) ∧ Kd.R (Kd.int .u8) 5 w' w.heap.size (fun _ => True) v0_ r ∧ Below w.heap.size w w' := by
  unfold insn_Reads.f at h
  obtain ⟨t, hk, h⟩ := Option.bind_eq_some_iff.mp h
  obtain ⟨x, hx⟩ : ∃ x, insn_bitX.f a0_0 a0_1 a0_2 a0_3 a0_4 = some x := ⟨_, rfl⟩
  have hcd : insn_Code.f a0_0 a0_1 a0_2 a0_3 a0_4 = some (a0_0 / 16) := rfl
  by_cases c15 : t = 1 ∨ t = 5
  · rw [if_pos c15, hcd, Option.bind_some, hx, Option.bind_some] at h
    obtain rfl := Option.some.inj h
    by_cases c5 : t = 5
    · subst c5
      cases x
      · exact reads_5_n_f k _ _ _ _ _ w hk hx
      · exact reads_5_n_t k _ _ _ _ _ w hk hx
    · obtain rfl : t = 1 := by omega
      by_cases c11 : a0_0 / 16 = 11
      · cases x
        · have e : readsL 1 (a0_0 / 16) false a0_1 a0_2 = [] := by simp [readsL, c11]
          rw [e]
          exact reads_1_m_f k _ _ _ _ _ w hk c11 hx
        · have e : readsL 1 (a0_0 / 16) true a0_1 a0_2 = [a0_2] := by simp [readsL, c11]
          rw [e]
          exact reads_1_m_t k _ _ _ _ _ w hk c11 hx
      · cases x
        · have e : readsL 1 (a0_0 / 16) false a0_1 a0_2 = [a0_1] := by simp [readsL, c11]
          rw [e]
          exact reads_1_n_f k _ _ _ _ _ w hk c11 hx
        · have e : readsL 1 (a0_0 / 16) true a0_1 a0_2 = [a0_1, a0_2] := by simp [readsL, c11]
          rw [e]
          exact reads_1_n_t k _ _ _ _ _ w hk c11 hx
  · rw [if_neg c15] at h
    by_cases c2 : t = 2
    · rw [if_pos c2] at h
      obtain rfl := Option.some.inj h
      subst c2
      exact reads_2 k _ _ _ _ _ w hk
    rw [if_neg c2] at h
    by_cases c3 : t = 3
    · rw [if_pos c3] at h
      obtain rfl := Option.some.inj h
      subst c3
      exact reads_3 k _ _ _ _ _ w hk
    rw [if_neg c3] at h
    by_cases c4 : t = 4
    · rw [if_pos c4] at h
      obtain rfl := Option.some.inj h
      subst c4
      exact reads_4 k _ _ _ _ _ w hk
    rw [if_neg c4] at h
    by_cases c8 : t = 8
    · rw [if_pos c8] at h
      obtain rfl := Option.some.inj h
      subst c8
      exact reads_8 k _ _ _ _ _ w hk
    rw [if_neg c8] at h
    obtain rfl := Option.some.inj h
    exact reads_e k _ _ _ _ _ w t hk ⟨fun e => c15 (.inl e), c2, c3, c4, fun e => c15 (.inr e), c8⟩
end Go.Proofs.Ytibghcmkmbamjaa.PI
