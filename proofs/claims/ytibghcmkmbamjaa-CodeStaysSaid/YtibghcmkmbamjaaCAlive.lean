/- code: some answers that the document fixes: alive answers true. -/
import Derived.Test.YtibghcmkmbamjaaCCheckGo
import Derived.Test.YtibghcmkmbamjaaGDec
namespace Go.Proofs.Ytibghcmkmbamjaa
open Go.RowKit Go.Shelf
set_option linter.unusedVariables false
set_option linter.unusedSimpArgs false
set_option linter.unusedSectionVars false
theorem mov43 (w : World) : Calls Try.prog 43 #[] w fun e w' => e = .returned (.agg #[.int .u8 183, .int .u8 0, .int .u8 0, .int .i16 0, .int .i32 0]) ∧ Upd [] w w' := by
  have U := (Upd.refl [] w).alloc (.cells #[.int .u8 183, .int .u8 0, .int .u8 0, .int .i16 0, .int .i32 0] 24)
  have hb := heap_alloc_new w (.cells #[.int .u8 183, .int .u8 0, .int .u8 0, .int .i16 0, .int .i32 0] 24)
  have q0 := cell_of hb 0
  have q1 := cell_of hb 1
  have q2 := cell_of hb 2
  have q3 := cell_of hb 3
  have q4 := cell_of hb 4
  simp only [List.getElem?_toArray, List.getElem?_cons_zero, List.getElem?_cons_succ] at q0 q1 q2 q3 q4
  go_enter Try.func43, Try.ntmps43
  go_wp2_with fail
  refine bodyPost_ret (v := .agg #[.int .u8 183, .int .u8 0, .int .u8 0, .int .i16 0, .int .i32 0]) (by simp [results, Try.results43, go_sem, q0, q1, q2, q3, q4]) rfl ⟨rfl, U⟩
theorem exit44 (w : World) : Calls Try.prog 44 #[] w fun e w' => e = .returned (.agg #[.int .u8 149, .int .u8 0, .int .u8 0, .int .i16 0, .int .i32 0]) ∧ Upd [] w w' := by
  have U := (Upd.refl [] w).alloc (.cells #[.int .u8 149, .int .u8 0, .int .u8 0, .int .i16 0, .int .i32 0] 24)
  have hb := heap_alloc_new w (.cells #[.int .u8 149, .int .u8 0, .int .u8 0, .int .i16 0, .int .i32 0] 24)
  have q0 := cell_of hb 0
  have q1 := cell_of hb 1
  have q2 := cell_of hb 2
  have q3 := cell_of hb 3
  have q4 := cell_of hb 4
  simp only [List.getElem?_toArray, List.getElem?_cons_zero, List.getElem?_cons_succ] at q0 q1 q2 q3 q4
  go_enter Try.func44, Try.ntmps44
  go_wp2_with fail
  refine bodyPost_ret (v := .agg #[.int .u8 149, .int .u8 0, .int .u8 0, .int .i16 0, .int .i32 0]) (by simp [results, Try.results44, go_sem, q0, q1, q2, q3, q4]) rfl ⟨rfl, U⟩
theorem rows_lit {w : World} {b : Nat} {cs : Array Value} {e : TypeId} {fr : Nat × Nat} {l : List Ins} (hb : w.heap[b]? = some (.cells cs e fr)) (hc : cs.toList = (l.map encN).flatten) : RowsAt w (some ⟨b, 0, none⟩) 5 (l.map encN) := by
  intro i r hi
  refine ⟨b, 0, rfl, fun j v hj => ?_⟩
  have h5 : ∀ r ∈ l.map encN, r.length = 5 := fun r hr => by
    obtain ⟨x, _, rfl⟩ := List.mem_map.1 hr
    rfl
  have := flatten_at h5 hi hj
  rw [← hc] at this
  rw [cell_of hb]
  simpa using this
theorem ok_lit {op S O M : Int} (h : 0 ≤ op ∧ op ≤ 255 ∧ 0 ≤ S ∧ S ≤ 255 ∧ -32768 ≤ O ∧ O ≤ 32767 ∧ -2147483648 ≤ M ∧ M ≤ 2147483647) : OkI ⟨op, 0, S, O, M⟩ := ⟨h.1, h.2.1, Int.le_refl 0, (by decide : (0 : Int) ≤ 255), h.2.2.1, h.2.2.2.1, h.2.2.2.2.1, h.2.2.2.2.2.1, h.2.2.2.2.2.2.1, h.2.2.2.2.2.2.2⟩

theorem chk1 (W : World) : Calls Try.prog 33 #[.slice (some ⟨W.heap.size, 0, none⟩) 2 2] (W.alloc (.cells #[.int .u8 183, .int .u8 0, .int .u8 0, .int .i16 0, .int .i32 0, .int .u8 149, .int .u8 0, .int .u8 0, .int .i16 0, .int .i32 0] 24)) fun e w' => ∃ v, e = .returned (.tuple #[v, .int .i64 (([(0, 2)], 0, 0) : List (Int × Int) × Int × Int).2.1, .int .i64 (([(0, 2)], 0, 0) : List (Int × Int) × Int × Int).2.2]) ∧ SepK (W.alloc (.cells #[.int .u8 183, .int .u8 0, .int .u8 0, .int .i16 0, .int .i32 0, .int .u8 149, .int .u8 0, .int .u8 0, .int .i16 0, .int .i32 0] 24)) w' [] (star (rowR 53 2 v ((([(0, 2)], 0, 0) : List (Int × Int) × Int × Int).1.map encS)) emp) := by
  rw [← alive1]
  exact check33 (l := [movI, exitI]) 2 (rows_lit (heap_alloc_new W _) rfl) (by
    intro x hx
    simp only [List.mem_cons, List.not_mem_nil, or_false] at hx
    rcases hx with rfl | rfl <;> exact ok_lit (by decide))

theorem chk2 (W : World) : Calls Try.prog 33 #[.slice (some ⟨W.heap.size, 0, none⟩) 1 1] (W.alloc (.cells #[.int .u8 183, .int .u8 0, .int .u8 0, .int .i16 0, .int .i32 0] 24)) fun e w' => ∃ v, e = .returned (.tuple #[v, .int .i64 (([], 0, 82) : List (Int × Int) × Int × Int).2.1, .int .i64 (([], 0, 82) : List (Int × Int) × Int × Int).2.2]) ∧ SepK (W.alloc (.cells #[.int .u8 183, .int .u8 0, .int .u8 0, .int .i16 0, .int .i32 0] 24)) w' [] (star (rowR 53 2 v ((([], 0, 82) : List (Int × Int) × Int × Int).1.map encS)) emp) := by
  rw [← alive2]
  exact check33 (l := [movI]) 1 (rows_lit (heap_alloc_new W _) rfl) (by
    intro x hx
    simp only [List.mem_cons, List.not_mem_nil, or_false] at hx
    rcases hx with rfl <;> exact ok_lit (by decide))

theorem chk3 (W : World) : Calls Try.prog 33 #[.slice (some ⟨W.heap.size, 0, none⟩) 2 2] (W.alloc (.cells #[.int .u8 5, .int .u8 0, .int .u8 0, .int .i16 (-1), .int .i32 0, .int .u8 149, .int .u8 0, .int .u8 0, .int .i16 0, .int .i32 0] 24)) fun e w' => ∃ v, e = .returned (.tuple #[v, .int .i64 (([], 1, 84) : List (Int × Int) × Int × Int).2.1, .int .i64 (([], 1, 84) : List (Int × Int) × Int × Int).2.2]) ∧ SepK (W.alloc (.cells #[.int .u8 5, .int .u8 0, .int .u8 0, .int .i16 (-1), .int .i32 0, .int .u8 149, .int .u8 0, .int .u8 0, .int .i16 0, .int .i32 0] 24)) w' [] (star (rowR 53 2 v ((([], 1, 84) : List (Int × Int) × Int × Int).1.map encS)) emp) := by
  rw [← alive3]
  exact check33 (l := [⟨5, 0, 0, -1, 0⟩, exitI]) 2 (rows_lit (heap_alloc_new W _) rfl) (by
    intro x hx
    simp only [List.mem_cons, List.not_mem_nil, or_false] at hx
    rcases hx with rfl | rfl <;> exact ok_lit (by decide))

theorem chk4 (W : World) : Calls Try.prog 33 #[.slice (some ⟨W.heap.size, 0, none⟩) 4 4] (W.alloc (.cells #[.int .u8 133, .int .u8 0, .int .u8 1, .int .i16 0, .int .i32 1, .int .u8 149, .int .u8 0, .int .u8 0, .int .i16 0, .int .i32 0, .int .u8 183, .int .u8 0, .int .u8 0, .int .i16 0, .int .i32 0, .int .u8 149, .int .u8 0, .int .u8 0, .int .i16 0, .int .i32 0] 24)) fun e w' => ∃ v, e = .returned (.tuple #[v, .int .i64 (([(0, 2), (2, 4)], 0, 0) : List (Int × Int) × Int × Int).2.1, .int .i64 (([(0, 2), (2, 4)], 0, 0) : List (Int × Int) × Int × Int).2.2]) ∧ SepK (W.alloc (.cells #[.int .u8 133, .int .u8 0, .int .u8 1, .int .i16 0, .int .i32 1, .int .u8 149, .int .u8 0, .int .u8 0, .int .i16 0, .int .i32 0, .int .u8 183, .int .u8 0, .int .u8 0, .int .i16 0, .int .i32 0, .int .u8 149, .int .u8 0, .int .u8 0, .int .i16 0, .int .i32 0] 24)) w' [] (star (rowR 53 2 v ((([(0, 2), (2, 4)], 0, 0) : List (Int × Int) × Int × Int).1.map encS)) emp) := by
  rw [← alive4]
  exact check33 (l := [⟨133, 0, 1, 0, 1⟩, exitI, movI, exitI]) 4 (rows_lit (heap_alloc_new W _) rfl) (by
    intro x hx
    simp only [List.mem_cons, List.not_mem_nil, or_false] at hx
    rcases hx with rfl | rfl | rfl | rfl <;> exact ok_lit (by decide))

theorem chk5 (W : World) : Calls Try.prog 33 #[.slice (some ⟨W.heap.size, 0, none⟩) 2 2] (W.alloc (.cells #[.int .u8 133, .int .u8 0, .int .u8 1, .int .i16 0, .int .i32 (-1), .int .u8 149, .int .u8 0, .int .u8 0, .int .i16 0, .int .i32 0] 24)) fun e w' => ∃ v, e = .returned (.tuple #[v, .int .i64 (([], 0, 83) : List (Int × Int) × Int × Int).2.1, .int .i64 (([], 0, 83) : List (Int × Int) × Int × Int).2.2]) ∧ SepK (W.alloc (.cells #[.int .u8 133, .int .u8 0, .int .u8 1, .int .i16 0, .int .i32 (-1), .int .u8 149, .int .u8 0, .int .u8 0, .int .i16 0, .int .i32 0] 24)) w' [] (star (rowR 53 2 v ((([], 0, 83) : List (Int × Int) × Int × Int).1.map encS)) emp) := by
  rw [← alive5]
  exact check33 (l := [⟨133, 0, 1, 0, -1⟩, exitI]) 2 (rows_lit (heap_alloc_new W _) rfl) (by
    intro x hx
    simp only [List.mem_cons, List.not_mem_nil, or_false] at hx
    rcases hx with rfl | rfl <;> exact ok_lit (by decide))

theorem chk6 (W : World) : Calls Try.prog 33 #[.slice none 0 0] W fun e w' => e = .returned (.tuple #[.slice none 0 0, .int .i64 0, .int .i64 2]) ∧ Upd [] W w' := check33_nil 0 none W
/-- What two slots' bytes are. -/
theorem encBy2 : (encBy [movI, exitI]).toArray = #[183, 0, 0, 0, 0, 0, 0, 0, 149, 0, 0, 0, 0, 0, 0, 0] := by decide +kernel
theorem decP2 : decP ⟨#[183, 0, 0, 0, 0, 0, 0, 0, 149, 0, 0, 0, 0, 0, 0, 0]⟩ = [movI, exitI] := by decide +kernel
theorem enc7 (W : World) : Calls Try.prog 41 #[.slice (some ⟨W.heap.size, 0, none⟩) 2 2] (W.alloc (.cells #[.int .u8 183, .int .u8 0, .int .u8 0, .int .i16 0, .int .i32 0, .int .u8 149, .int .u8 0, .int .u8 0, .int .i16 0, .int .i32 0] 24)) fun e w' => e = .returned (.string ⟨#[183, 0, 0, 0, 0, 0, 0, 0, 149, 0, 0, 0, 0, 0, 0, 0]⟩) ∧ Upd [] (W.alloc (.cells #[.int .u8 183, .int .u8 0, .int .u8 0, .int .i16 0, .int .i32 0, .int .u8 149, .int .u8 0, .int .u8 0, .int .i16 0, .int .i32 0] 24)) w' := by
  rw [← encBy2]
  exact encode41 (l := [movI, exitI]) 2 _ (rows_lit (heap_alloc_new W _) rfl) (by
    intro x hx
    simp only [List.mem_cons, List.not_mem_nil, or_false] at hx
    rcases hx with rfl | rfl <;> exact ok_lit (by decide)) (by decide)
theorem dec7 (W : World) : Calls Try.prog 40 #[.string ⟨#[183, 0, 0, 0, 0, 0, 0, 0, 149, 0, 0, 0, 0, 0, 0, 0]⟩] W fun e w' => ∃ v, e = .returned (.tuple #[v, .int .i64 0]) ∧ SepK W w' [] (star (rowR 24 5 v (([movI, exitI]).map encN)) emp) := by
  rw [← decP2]
  exact decode40 _ W (by decide) (by decide)
theorem eqExit (w : World) : (binOp .eql 24 (.agg #[.int .u8 149, .int .u8 0, .int .u8 0, .int .i16 0, .int .i32 0]) (.agg #[.int .u8 149, .int .u8 0, .int .u8 0, .int .i16 0, .int .i32 0])).run Try.prog w = .ok (.bool true) w := by
  have h : (Op.equal 24 (.agg #[.int .u8 149, .int .u8 0, .int .u8 0, .int .i16 0, .int .i32 0]) (.agg #[.int .u8 149, .int .u8 0, .int .u8 0, .int .i16 0, .int .i32 0])).run Try.prog w = .ok ((149 : Int) == 149 && ((0 : Int) == 0 && ((0 : Int) == 0 && ((0 : Int) == 0 && ((0 : Int) == 0))))) w := PI.eqA24 _ w _ _ _ _ _ _ _ _ _ _
  simp [binOp, h]
set_option maxRecDepth 100000 in
set_option maxHeartbeats 16000000 in
theorem alive32 (w : World) : Calls Try.prog 32 #[] w fun e w' => e = .returned (.bool true) ∧ Upd [] w w' := by
  go_enter Try.func32, Try.ntmps32
  have U := Upd.refl [] w
  go_wp2_with (first | (go_at_call 43; (refine (mov43 _).mono ?_); rintro e wz ⟨rfl, uz⟩; have U := U.trans uz) | (go_at_call 44; (refine (exit44 _).mono ?_); rintro e wz ⟨rfl, uz⟩; have U := U.trans uz))
  refine (chk1 _).mono ?_
  rintro e w1 ⟨v1, rfl, H1⟩
  have U := (U.trans ((Upd.refl [] _).alloc _)).trans H1.u
  obtain ⟨A1, c1, rfl, r1⟩ := H1.row
  simp only [List.map_cons, List.map_nil, List.length_cons, List.length_nil] at r1 ⊢
  clear H1
  go_wp2_with (first | (go_at_call 43; (refine (mov43 _).mono ?_); rintro e wz ⟨rfl, uz⟩; have U := U.trans uz; have r1 := r1.keep uz) | (go_at_call 44; (refine (exit44 _).mono ?_); rintro e wz ⟨rfl, uz⟩; have U := U.trans uz; have r1 := r1.keep uz))
  refine (chk2 _).mono ?_
  rintro e w2 ⟨v2, rfl, H2⟩
  have U := (U.trans ((Upd.refl [] _).alloc _)).trans H2.u
  have r1 := r1.keep (((Upd.refl [] _).alloc _).trans H2.u)
  clear H2
  go_wp2_with (first | (go_at_call 43; (refine (mov43 _).mono ?_); rintro e wz ⟨rfl, uz⟩; have U := U.trans uz; have r1 := r1.keep uz) | (go_at_call 44; (refine (exit44 _).mono ?_); rintro e wz ⟨rfl, uz⟩; have U := U.trans uz; have r1 := r1.keep uz))
  refine (chk3 _).mono ?_
  rintro e w3 ⟨v3, rfl, H3⟩
  have U := (U.trans ((Upd.refl [] _).alloc _)).trans H3.u
  have r1 := r1.keep (((Upd.refl [] _).alloc _).trans H3.u)
  clear H3
  go_wp2_with (first | (go_at_call 43; (refine (mov43 _).mono ?_); rintro e wz ⟨rfl, uz⟩; have U := U.trans uz; have r1 := r1.keep uz) | (go_at_call 44; (refine (exit44 _).mono ?_); rintro e wz ⟨rfl, uz⟩; have U := U.trans uz; have r1 := r1.keep uz))
  refine (chk4 _).mono ?_
  rintro e w4 ⟨v4, rfl, H4⟩
  have U := (U.trans ((Upd.refl [] _).alloc _)).trans H4.u
  have r1 := r1.keep (((Upd.refl [] _).alloc _).trans H4.u)
  obtain ⟨A4, c4, rfl, r4⟩ := H4.row
  simp only [List.map_cons, List.map_nil, List.length_cons, List.length_nil] at r4 ⊢
  clear H4
  go_wp2_with (first | (go_at_call 43; (refine (mov43 _).mono ?_); rintro e wz ⟨rfl, uz⟩; have U := U.trans uz; have r1 := r1.keep uz; have r4 := r4.keep uz) | (go_at_call 44; (refine (exit44 _).mono ?_); rintro e wz ⟨rfl, uz⟩; have U := U.trans uz; have r1 := r1.keep uz; have r4 := r4.keep uz))
  refine (chk5 _).mono ?_
  rintro e w5 ⟨v5, rfl, H5⟩
  have U := (U.trans ((Upd.refl [] _).alloc _)).trans H5.u
  have r1 := r1.keep (((Upd.refl [] _).alloc _).trans H5.u)
  have r4 := r4.keep (((Upd.refl [] _).alloc _).trans H5.u)
  clear H5
  go_wp2_with fail
  refine (chk6 _).mono ?_
  rintro e w6 ⟨rfl, u6⟩
  have U := U.trans u6
  have r1 := r1.keep u6
  have r4 := r4.keep u6
  go_wp2_with (first | (go_at_call 43; (refine (mov43 _).mono ?_); rintro e wz ⟨rfl, uz⟩; have U := U.trans uz; have r1 := r1.keep uz; have r4 := r4.keep uz) | (go_at_call 44; (refine (exit44 _).mono ?_); rintro e wz ⟨rfl, uz⟩; have U := U.trans uz; have r1 := r1.keep uz; have r4 := r4.keep uz))
  refine (enc7 _).mono ?_
  rintro e w7 ⟨rfl, u7⟩
  have U := (U.trans ((Upd.refl [] _).alloc _)).trans u7
  have r1 := r1.keep (((Upd.refl [] _).alloc _).trans u7)
  have r4 := r4.keep (((Upd.refl [] _).alloc _).trans u7)
  go_wp2_with fail
  refine (dec7 _).mono ?_
  rintro e w8 ⟨v8, rfl, H8⟩
  have U := U.trans H8.u
  have r1 := r1.keep H8.u
  have r4 := r4.keep H8.u
  obtain ⟨A8, c8, rfl, r8⟩ := H8.row
  simp only [List.map_cons, List.map_nil, List.length_cons, List.length_nil] at r8 ⊢
  clear H8
  go_wp2_with fail
  refine (decode40_form _ _ (by decide)).mono ?_
  rintro e w9 ⟨rfl, rfl⟩
  obtain ⟨b1, o1, rfl, q1⟩ := r1 0 _ rfl
  have q1 := q1 1 _ rfl
  obtain ⟨b4, o4, rfl, q4⟩ := r4 1 _ rfl
  have q4 := q4 0 _ rfl
  obtain ⟨b8, o8, rfl, q8⟩ := r8 1 _ rfl
  have d0 := q8 0 _ rfl
  have d1 := q8 1 _ rfl
  have d2 := q8 2 _ rfl
  have d3 := q8 3 _ rfl
  have d4 := q8 4 _ rfl
  simp only [Nat.reduceMul, Nat.reduceAdd, Nat.add_zero] at q1 q4 d0 d1 d2 d3 d4
  clear r1 r4 r8 q8
  have heq := eqExit
  go_wp2_with fail
  refine wp_region_held_drew (S := fun w' => w'.cell? ⟨b1, o1 + 1, none⟩ = some (.int .i64 2) ∧ w'.cell? ⟨b4, o4 + 2, none⟩ = some (.int .i64 2) ∧ w'.cell? ⟨b8, o8 + 5, none⟩ = some (.int .u8 149) ∧ w'.cell? ⟨b8, o8 + 6, none⟩ = some (.int .u8 0) ∧ w'.cell? ⟨b8, o8 + 7, none⟩ = some (.int .u8 0) ∧ w'.cell? ⟨b8, o8 + 8, none⟩ = some (.int .i16 0) ∧ w'.cell? ⟨b8, o8 + 9, none⟩ = some (.int .i32 0)) (by kernel_rfl) (by exact ⟨q1, q4, d0, d1, d2, d3, d4⟩) (fun hHeld => ?_)
  refine wpAnyH_take (i := 0) (oi := ⟨some 81, _, _, _, _, _⟩) (v := ?vh1) rfl (by kernel_rfl) (by kernel_rfl) (by kernel_rfl) (fun _ _ _ h => h) (Or.inl ⟨by rfl, ?hyh1⟩) hHeld ?resth1
  case hyh1 => (intro wq hSw; (try dsimp only at hSw); go_simp; (try with_reducible rfl))
  try simp only [Act.put, List.setIfInBounds_toArray, List.set_cons_zero, List.set_cons_succ]
  refine wpAnyH_take (i := 1) (oi := ⟨some 82, _, _, _, _, _⟩) (v := ?vh2) rfl (by kernel_rfl) (by kernel_rfl) (by kernel_rfl) (fun _ _ _ h => h) (Or.inl ⟨by rfl, ?hyh2⟩) hHeld ?resth2
  case hyh2 => (intro wq hSw; (try dsimp only at hSw); go_simp; (try with_reducible rfl))
  try simp only [Act.put, List.setIfInBounds_toArray, List.set_cons_zero, List.set_cons_succ]
  refine wpAnyH_take (i := 2) (oi := ⟨some 83, _, _, _, _, _⟩) (v := ?vh3) rfl (by kernel_rfl) (by kernel_rfl) (by kernel_rfl) (fun _ _ _ h => h) (Or.inl ⟨by rfl, ?hyh3⟩) hHeld ?resth3
  case hyh3 => (intro wq hSw; (try dsimp only at hSw); go_simp; (try with_reducible rfl))
  try simp only [Act.put, List.setIfInBounds_toArray, List.set_cons_zero, List.set_cons_succ]
  refine wpAnyH_take (i := 3) (oi := ⟨some 84, _, _, _, _, _⟩) (v := ?vh4) rfl (by kernel_rfl) (by kernel_rfl) (by kernel_rfl) (fun _ _ _ h => h) (Or.inl ⟨by rfl, ?hyh4⟩) hHeld ?resth4
  case hyh4 => (intro wq hSw; (try dsimp only at hSw); go_simp; (try with_reducible rfl))
  try simp only [Act.put, List.setIfInBounds_toArray, List.set_cons_zero, List.set_cons_succ]
  refine wpAnyH_take (i := 4) (oi := ⟨some 85, _, _, _, _, _⟩) (v := ?vh5) rfl (by kernel_rfl) (by kernel_rfl) (by kernel_rfl) (fun _ _ _ h => h) (Or.inl ⟨by rfl, ?hyh5⟩) hHeld ?resth5
  case hyh5 => (intro wq hSw; (try dsimp only at hSw); go_simp; (try with_reducible rfl))
  try simp only [Act.put, List.setIfInBounds_toArray, List.set_cons_zero, List.set_cons_succ]
  refine wpAnyH_take (i := 5) (oi := ⟨some 86, _, _, _, _, _⟩) (v := ?vh6) rfl (by kernel_rfl) (by kernel_rfl) (by kernel_rfl) (fun _ _ _ h => h) (Or.inl ⟨by rfl, ?hyh6⟩) hHeld ?resth6
  case hyh6 => (intro wq hSw; (try dsimp only at hSw); go_simp; (try with_reducible rfl))
  try simp only [Act.put, List.setIfInBounds_toArray, List.set_cons_zero, List.set_cons_succ]
  refine wpAnyH_take (i := 6) (oi := ⟨some 87, _, _, _, _, _⟩) (v := ?vh7) rfl (by kernel_rfl) (by kernel_rfl) (by kernel_rfl) (fun _ _ _ h => h) (Or.inl ⟨by rfl, ?hyh7⟩) hHeld ?resth7
  case hyh7 => (intro wq hSw; (try dsimp only at hSw); go_simp; (try with_reducible rfl))
  try simp only [Act.put, List.setIfInBounds_toArray, List.set_cons_zero, List.set_cons_succ]
  refine wpAnyH_take (i := 7) (oi := ⟨some 88, _, _, _, _, _⟩) (v := ?vh8) rfl (by kernel_rfl) (by kernel_rfl) (by kernel_rfl) (fun _ _ _ h => h) (Or.inl ⟨by rfl, ?hyh8⟩) hHeld ?resth8
  case hyh8 => (intro wq hSw; (try dsimp only at hSw); go_simp; (try with_reducible rfl))
  try simp only [Act.put, List.setIfInBounds_toArray, List.set_cons_zero, List.set_cons_succ]
  refine wpAnyH_take (i := 8) (oi := ⟨some 89, _, _, _, _, _⟩) (v := ?vh9) rfl (by kernel_rfl) (by kernel_rfl) (by kernel_rfl) (fun _ _ _ h => h) (Or.inl ⟨by rfl, ?hyh9⟩) hHeld ?resth9
  case hyh9 => (intro wq hSw; (try dsimp only at hSw); go_simp; (try with_reducible rfl))
  try simp only [Act.put, List.setIfInBounds_toArray, List.set_cons_zero, List.set_cons_succ]
  refine wpAnyH_take (i := 9) (oi := ⟨some 90, _, _, _, _, _⟩) (v := ?vh10) rfl (by kernel_rfl) (by kernel_rfl) (by kernel_rfl) (fun _ _ _ h => h) (Or.inl ⟨by rfl, ?hyh10⟩) hHeld ?resth10
  case hyh10 => (intro wq hSw; (try dsimp only at hSw); go_simp; (try with_reducible rfl))
  try simp only [Act.put, List.setIfInBounds_toArray, List.set_cons_zero, List.set_cons_succ]
  refine wpAnyH_take (i := 10) (oi := ⟨some 91, _, _, _, _, _⟩) (v := ?vh11) rfl (by kernel_rfl) (by kernel_rfl) (by kernel_rfl) (fun _ _ _ h => h) (Or.inl ⟨by rfl, ?hyh11⟩) hHeld ?resth11
  case hyh11 => (intro wq hSw; (try dsimp only at hSw); go_simp; (try with_reducible rfl))
  try simp only [Act.put, List.setIfInBounds_toArray, List.set_cons_zero, List.set_cons_succ]
  refine wpAnyH_take (i := 11) (oi := ⟨some 92, _, _, _, _, _⟩) (v := ?vh12) rfl (by kernel_rfl) (by kernel_rfl) (by kernel_rfl) (fun _ _ _ h => h) (Or.inl ⟨by rfl, ?hyh12⟩) hHeld ?resth12
  case hyh12 => (intro wq hSw; (try dsimp only at hSw); go_simp; (try with_reducible rfl))
  try simp only [Act.put, List.setIfInBounds_toArray, List.set_cons_zero, List.set_cons_succ]
  refine wpAnyH_take (i := 12) (oi := ⟨some 93, _, _, _, _, _⟩) (v := ?vh13) rfl (by kernel_rfl) (by kernel_rfl) (by kernel_rfl) (fun _ _ _ h => h) (Or.inl ⟨by rfl, ?hyh13⟩) hHeld ?resth13
  case hyh13 => (intro wq hSw; (try dsimp only at hSw); go_simp; (try with_reducible rfl))
  try simp only [Act.put, List.setIfInBounds_toArray, List.set_cons_zero, List.set_cons_succ]
  refine wpAnyH_take (i := 13) (oi := ⟨some 94, _, _, _, _, _⟩) (v := ?vh14) rfl (by kernel_rfl) (by kernel_rfl) (by kernel_rfl) (fun _ _ _ h => h) (Or.inl ⟨by rfl, ?hyh14⟩) hHeld ?resth14
  case hyh14 => (intro wq hSw; (try dsimp only at hSw); go_simp; (try with_reducible rfl))
  try simp only [Act.put, List.setIfInBounds_toArray, List.set_cons_zero, List.set_cons_succ]
  refine wpAnyH_take (i := 14) (oi := ⟨some 95, _, _, _, _, _⟩) (v := ?vh15) rfl (by kernel_rfl) (by kernel_rfl) (by kernel_rfl) (fun _ _ _ h => h) (Or.inl ⟨by rfl, ?hyh15⟩) hHeld ?resth15
  case hyh15 => (intro wq hSw; (try dsimp only at hSw); go_simp; (try with_reducible rfl))
  try simp only [Act.put, List.setIfInBounds_toArray, List.set_cons_zero, List.set_cons_succ]
  refine wpAnyH_take (i := 15) (oi := ⟨some 96, _, _, _, _, _⟩) (v := ?vh16) rfl (by kernel_rfl) (by kernel_rfl) (by kernel_rfl) (fun _ _ _ h => h) (Or.inl ⟨by rfl, ?hyh16⟩) hHeld ?resth16
  case hyh16 => (intro wq hSw; (try dsimp only at hSw); go_simp; (try with_reducible rfl))
  try simp only [Act.put, List.setIfInBounds_toArray, List.set_cons_zero, List.set_cons_succ]
  refine wpAnyH_take (i := 16) (oi := ⟨some 97, _, _, _, _, _⟩) (v := ?vh17) rfl (by kernel_rfl) (by kernel_rfl) (by kernel_rfl) (fun _ _ _ h => h) (Or.inl ⟨by rfl, ?hyh17⟩) hHeld ?resth17
  case hyh17 => (intro wq hSw; (try dsimp only at hSw); go_simp; (try with_reducible rfl))
  try simp only [Act.put, List.setIfInBounds_toArray, List.set_cons_zero, List.set_cons_succ]
  refine wpAnyH_take (i := 17) (oi := ⟨some 98, _, _, _, _, _⟩) (v := ?vh18) rfl (by kernel_rfl) (by kernel_rfl) (by kernel_rfl) (fun _ _ _ h => h) (Or.inl ⟨by rfl, ?hyh18⟩) hHeld ?resth18
  case hyh18 => (intro wq hSw; (try dsimp only at hSw); go_simp; (try with_reducible rfl))
  try simp only [Act.put, List.setIfInBounds_toArray, List.set_cons_zero, List.set_cons_succ]
  refine wpAnyH_take (i := 18) (oi := ⟨some 99, _, _, _, _, _⟩) (v := ?vh19) rfl (by kernel_rfl) (by kernel_rfl) (by kernel_rfl) (fun _ _ _ h => h) (Or.inl ⟨by rfl, ?hyh19⟩) hHeld ?resth19
  case hyh19 => (intro wq hSw; (try dsimp only at hSw); go_simp; (try with_reducible rfl))
  try simp only [Act.put, List.setIfInBounds_toArray, List.set_cons_zero, List.set_cons_succ]
  refine wpAnyH_take (i := 19) (oi := ⟨some 100, _, _, _, _, _⟩) (v := ?vh20) rfl (by kernel_rfl) (by kernel_rfl) (by kernel_rfl) (fun _ _ _ h => h) (Or.inl ⟨by rfl, ?hyh20⟩) hHeld ?resth20
  case hyh20 => (intro wq hSw; (try dsimp only at hSw); go_simp; (try with_reducible rfl))
  try simp only [Act.put, List.setIfInBounds_toArray, List.set_cons_zero, List.set_cons_succ]
  refine wpAnyH_take (i := 20) (oi := ⟨some 101, _, _, _, _, _⟩) (v := ?vh21) rfl (by kernel_rfl) (by kernel_rfl) (by kernel_rfl) (fun _ _ _ h => h) (Or.inl ⟨by rfl, ?hyh21⟩) hHeld ?resth21
  case hyh21 => (intro wq hSw; (try dsimp only at hSw); go_simp; (try with_reducible rfl))
  try simp only [Act.put, List.setIfInBounds_toArray, List.set_cons_zero, List.set_cons_succ]
  refine wpAnyH_take (i := 21) (oi := ⟨some 102, _, _, _, _, _⟩) (v := ?vh22) rfl (by kernel_rfl) (by kernel_rfl) (by kernel_rfl) (fun _ _ _ h => h) (Or.inl ⟨by rfl, ?hyh22⟩) hHeld ?resth22
  case hyh22 => (intro wq hSw; (try dsimp only at hSw); go_simp; (try with_reducible rfl))
  try simp only [Act.put, List.setIfInBounds_toArray, List.set_cons_zero, List.set_cons_succ]
  refine wpAnyH_take (i := 22) (oi := ⟨some 103, _, _, _, _, _⟩) (v := ?vh23) rfl (by kernel_rfl) (by kernel_rfl) (by kernel_rfl) (fun _ _ _ h => h) (Or.inl ⟨by rfl, ?hyh23⟩) hHeld ?resth23
  case hyh23 => (intro wq hSw; (try dsimp only at hSw); go_simp; (try with_reducible rfl))
  try simp only [Act.put, List.setIfInBounds_toArray, List.set_cons_zero, List.set_cons_succ]
  refine wpAnyH_take (i := 23) (oi := ⟨some 104, _, _, _, _, _⟩) (v := ?vh24) rfl (by kernel_rfl) (by kernel_rfl) (by kernel_rfl) (fun _ _ _ h => h) (Or.inl ⟨by rfl, ?hyh24⟩) hHeld ?resth24
  case hyh24 => (intro wq hSw; (try dsimp only at hSw); go_simp; (try with_reducible rfl))
  try simp only [Act.put, List.setIfInBounds_toArray, List.set_cons_zero, List.set_cons_succ]
  refine wpAnyH_take (i := 24) (oi := ⟨some 105, _, _, _, _, _⟩) (v := ?vh25) rfl (by kernel_rfl) (by kernel_rfl) (by kernel_rfl) (fun _ _ _ h => h) (Or.inl ⟨by rfl, ?hyh25⟩) hHeld ?resth25
  case hyh25 => (intro wq hSw; (try dsimp only at hSw); go_simp; (try with_reducible rfl))
  try simp only [Act.put, List.setIfInBounds_toArray, List.set_cons_zero, List.set_cons_succ]
  refine wpAnyH_take (i := 25) (oi := ⟨some 106, _, _, _, _, _⟩) (v := ?vh26) rfl (by kernel_rfl) (by kernel_rfl) (by kernel_rfl) (fun _ _ _ h => h) (Or.inl ⟨by rfl, ?hyh26⟩) hHeld ?resth26
  case hyh26 => (intro wq hSw; (try dsimp only at hSw); go_simp; (try with_reducible rfl))
  try simp only [Act.put, List.setIfInBounds_toArray, List.set_cons_zero, List.set_cons_succ]
  refine wpAnyH_take (i := 26) (oi := ⟨some 107, _, _, _, _, _⟩) (v := ?vh27) rfl (by kernel_rfl) (by kernel_rfl) (by kernel_rfl) (fun _ _ _ h => h) (Or.inl ⟨by rfl, ?hyh27⟩) hHeld ?resth27
  case hyh27 => (intro wq hSw; (try dsimp only at hSw); go_simp; (try with_reducible rfl))
  try simp only [Act.put, List.setIfInBounds_toArray, List.set_cons_zero, List.set_cons_succ]
  refine wpAnyH_take (i := 27) (oi := ⟨some 108, _, _, _, _, _⟩) (v := ?vh28) rfl (by kernel_rfl) (by kernel_rfl) (by kernel_rfl) (fun _ _ _ h => h) (Or.inl ⟨by rfl, ?hyh28⟩) hHeld ?resth28
  case hyh28 => (intro wq hSw; (try dsimp only at hSw); go_simp; (try with_reducible rfl))
  try simp only [Act.put, List.setIfInBounds_toArray, List.set_cons_zero, List.set_cons_succ]
  refine wpAnyH_take (i := 28) (oi := ⟨some 109, _, _, _, _, _⟩) (v := ?vh29) rfl (by kernel_rfl) (by kernel_rfl) (by kernel_rfl) (fun _ _ _ h => h) (Or.inl ⟨by rfl, ?hyh29⟩) hHeld ?resth29
  case hyh29 => (intro wq hSw; (try dsimp only at hSw); go_simp; (try with_reducible rfl))
  try simp only [Act.put, List.setIfInBounds_toArray, List.set_cons_zero, List.set_cons_succ]
  refine wpAnyH_take (i := 29) (oi := ⟨some 110, _, _, _, _, _⟩) (v := ?vh30) rfl (by kernel_rfl) (by kernel_rfl) (by kernel_rfl) (fun _ _ _ h => h) (Or.inl ⟨by rfl, ?hyh30⟩) hHeld ?resth30
  case hyh30 => (intro wq hSw; (try dsimp only at hSw); go_simp; (try with_reducible rfl))
  try simp only [Act.put, List.setIfInBounds_toArray, List.set_cons_zero, List.set_cons_succ]
  refine wpAnyH_take (i := 30) (oi := ⟨some 111, _, _, _, _, _⟩) (v := ?vh31) rfl (by kernel_rfl) (by kernel_rfl) (by kernel_rfl) (fun _ _ _ h => h) (Or.inl ⟨by rfl, ?hyh31⟩) hHeld ?resth31
  case hyh31 => (intro wq hSw; (try dsimp only at hSw); go_simp; (try with_reducible rfl))
  try simp only [Act.put, List.setIfInBounds_toArray, List.set_cons_zero, List.set_cons_succ]
  refine wpAnyH_take (i := 31) (oi := ⟨some 112, _, _, _, _, _⟩) (v := ?vh32) rfl (by kernel_rfl) (by kernel_rfl) (by kernel_rfl) (fun _ _ _ h => h) (Or.inl ⟨by rfl, ?hyh32⟩) hHeld ?resth32
  case hyh32 => (intro wq hSw; (try dsimp only at hSw); go_simp; (try with_reducible rfl))
  try simp only [Act.put, List.setIfInBounds_toArray, List.set_cons_zero, List.set_cons_succ]
  refine wpAnyH_take (i := 32) (oi := ⟨some 113, _, _, _, _, _⟩) (v := ?vh33) rfl (by kernel_rfl) (by kernel_rfl) (by kernel_rfl) (fun _ _ _ h => h) (Or.inl ⟨by rfl, ?hyh33⟩) hHeld ?resth33
  case hyh33 => (intro wq hSw; (try dsimp only at hSw); go_simp; (try with_reducible rfl))
  try simp only [Act.put, List.setIfInBounds_toArray, List.set_cons_zero, List.set_cons_succ]
  refine wpAnyH_take (i := 33) (oi := ⟨some 114, _, _, _, _, _⟩) (v := ?vh34) rfl (by kernel_rfl) (by kernel_rfl) (by kernel_rfl) (fun _ _ _ h => h) (Or.inl ⟨by rfl, ?hyh34⟩) hHeld ?resth34
  case hyh34 => (intro wq hSw; (try dsimp only at hSw); go_simp; (try with_reducible rfl))
  try simp only [Act.put, List.setIfInBounds_toArray, List.set_cons_zero, List.set_cons_succ]
  refine wpAnyH_take (i := 34) (oi := ⟨some 115, _, _, _, _, _⟩) (v := ?vh35) rfl (by kernel_rfl) (by kernel_rfl) (by kernel_rfl) (fun _ _ _ h => h) (Or.inl ⟨by rfl, ?hyh35⟩) hHeld ?resth35
  case hyh35 => (intro wq hSw; (try dsimp only at hSw); go_simp; (try with_reducible rfl))
  try simp only [Act.put, List.setIfInBounds_toArray, List.set_cons_zero, List.set_cons_succ]
  refine wpAnyH_take (i := 35) (oi := ⟨some 116, _, _, _, _, _⟩) (v := ?vh36) rfl (by kernel_rfl) (by kernel_rfl) (by kernel_rfl) (fun _ _ _ h => h) (Or.inl ⟨by rfl, ?hyh36⟩) hHeld ?resth36
  case hyh36 => (intro wq hSw; (try dsimp only at hSw); go_simp; (try with_reducible rfl))
  try simp only [Act.put, List.setIfInBounds_toArray, List.set_cons_zero, List.set_cons_succ]
  refine wpAnyH_take (i := 36) (oi := ⟨some 117, _, _, _, _, _⟩) (v := ?vh37) rfl (by kernel_rfl) (by kernel_rfl) (by kernel_rfl) (fun _ _ _ h => h) (Or.inl ⟨by rfl, ?hyh37⟩) hHeld ?resth37
  case hyh37 => (intro wq hSw; (try dsimp only at hSw); go_simp; (try with_reducible rfl))
  try simp only [Act.put, List.setIfInBounds_toArray, List.set_cons_zero, List.set_cons_succ]
  refine wpAnyH_take (i := 37) (oi := ⟨some 118, _, _, _, _, _⟩) (v := ?vh38) rfl (by kernel_rfl) (by kernel_rfl) (by kernel_rfl) (fun _ _ _ h => h) (Or.inl ⟨by rfl, ?hyh38⟩) hHeld ?resth38
  case hyh38 => (intro wq hSw; (try dsimp only at hSw); go_simp; (try with_reducible rfl))
  try simp only [Act.put, List.setIfInBounds_toArray, List.set_cons_zero, List.set_cons_succ]
  refine wpAnyH_take (i := 38) (oi := ⟨some 119, _, _, _, _, _⟩) (v := ?vh39) rfl (by kernel_rfl) (by kernel_rfl) (by kernel_rfl) (fun _ _ _ h => h) (Or.inl ⟨by rfl, ?hyh39⟩) hHeld ?resth39
  case hyh39 => (intro wq hSw; (try dsimp only at hSw); go_simp; (try with_reducible rfl))
  try simp only [Act.put, List.setIfInBounds_toArray, List.set_cons_zero, List.set_cons_succ]
  refine wpAnyH_take (i := 39) (oi := ⟨some 120, _, _, _, _, _⟩) (v := ?vh40) rfl (by kernel_rfl) (by kernel_rfl) (by kernel_rfl) (fun _ _ _ h => h) (Or.inl ⟨by rfl, ?hyh40⟩) hHeld ?resth40
  case hyh40 => (intro wq hSw; (try dsimp only at hSw); go_simp; (try with_reducible rfl))
  try simp only [Act.put, List.setIfInBounds_toArray, List.set_cons_zero, List.set_cons_succ]
  refine wpAnyH_take (i := 40) (oi := ⟨some 121, _, _, _, _, _⟩) (v := ?vh41) rfl (by kernel_rfl) (by kernel_rfl) (by kernel_rfl) (fun _ _ _ h => h) (Or.inl ⟨by rfl, ?hyh41⟩) hHeld ?resth41
  case hyh41 => (intro wq hSw; (try dsimp only at hSw); go_simp; (try with_reducible rfl))
  try simp only [Act.put, List.setIfInBounds_toArray, List.set_cons_zero, List.set_cons_succ]
  refine wpAnyH_take (i := 41) (oi := ⟨some 122, _, _, _, _, _⟩) (v := ?vh42) rfl (by kernel_rfl) (by kernel_rfl) (by kernel_rfl) (fun _ _ _ h => h) (Or.inl ⟨by rfl, ?hyh42⟩) hHeld ?resth42
  case hyh42 => (intro wq hSw; (try dsimp only at hSw); go_simp; (try with_reducible rfl))
  try simp only [Act.put, List.setIfInBounds_toArray, List.set_cons_zero, List.set_cons_succ]
  refine wpAnyH_take (i := 42) (oi := ⟨some 123, _, _, _, _, _⟩) (v := ?vh43) rfl (by kernel_rfl) (by kernel_rfl) (by kernel_rfl) (fun _ _ _ h => h) (Or.inl ⟨by rfl, ?hyh43⟩) hHeld ?resth43
  case hyh43 => (intro wq hSw; (try dsimp only at hSw); go_simp; (try with_reducible rfl))
  try simp only [Act.put, List.setIfInBounds_toArray, List.set_cons_zero, List.set_cons_succ]
  refine wpAnyH_take (i := 43) (oi := ⟨some 124, _, _, _, _, _⟩) (v := ?vh44) rfl (by kernel_rfl) (by kernel_rfl) (by kernel_rfl) (fun _ _ _ h => h) (Or.inl ⟨by rfl, ?hyh44⟩) hHeld ?resth44
  case hyh44 => (intro wq hSw; (try dsimp only at hSw); go_simp; (try with_reducible rfl))
  try simp only [Act.put, List.setIfInBounds_toArray, List.set_cons_zero, List.set_cons_succ]
  refine wpAnyH_take (i := 44) (oi := ⟨some 125, _, _, _, _, _⟩) (v := ?vh45) rfl (by kernel_rfl) (by kernel_rfl) (by kernel_rfl) (fun _ _ _ h => h) (Or.inl ⟨by rfl, ?hyh45⟩) hHeld ?resth45
  case hyh45 => (intro wq hSw; (try dsimp only at hSw); go_simp; (try with_reducible rfl))
  try simp only [Act.put, List.setIfInBounds_toArray, List.set_cons_zero, List.set_cons_succ]
  refine wpAnyH_take (i := 45) (oi := ⟨some 126, _, _, _, _, _⟩) (v := ?vh46) rfl (by kernel_rfl) (by kernel_rfl) (by kernel_rfl) (fun _ _ _ h => h) (Or.inl ⟨by rfl, ?hyh46⟩) hHeld ?resth46
  case hyh46 => (intro wq hSw; (try dsimp only at hSw); go_simp; (try with_reducible rfl))
  try simp only [Act.put, List.setIfInBounds_toArray, List.set_cons_zero, List.set_cons_succ]
  refine wpAnyH_take (i := 46) (oi := ⟨some 127, _, _, _, _, _⟩) (v := ?vh47) rfl (by kernel_rfl) (by kernel_rfl) (by kernel_rfl) (fun _ _ _ h => h) (Or.inl ⟨by rfl, ?hyh47⟩) hHeld ?resth47
  case hyh47 => (intro wq hSw; (try dsimp only at hSw); go_simp; (try with_reducible rfl))
  try simp only [Act.put, List.setIfInBounds_toArray, List.set_cons_zero, List.set_cons_succ]
  refine wpAnyH_take (i := 47) (oi := ⟨some 128, _, _, _, _, _⟩) (v := ?vh48) rfl (by kernel_rfl) (by kernel_rfl) (by kernel_rfl) (fun _ _ _ h => h) (Or.inl ⟨by rfl, ?hyh48⟩) hHeld ?resth48
  case hyh48 => (intro wq hSw; (try dsimp only at hSw); go_simp; (try with_reducible rfl))
  try simp only [Act.put, List.setIfInBounds_toArray, List.set_cons_zero, List.set_cons_succ]
  refine wpAnyH_take (i := 48) (oi := ⟨some 129, _, _, _, _, _⟩) (v := ?vh49) rfl (by kernel_rfl) (by kernel_rfl) (by kernel_rfl) (fun _ _ _ h => h) (Or.inl ⟨by rfl, ?hyh49⟩) hHeld ?resth49
  case hyh49 => (intro wq hSw; (try dsimp only at hSw); go_simp; (try with_reducible rfl))
  try simp only [Act.put, List.setIfInBounds_toArray, List.set_cons_zero, List.set_cons_succ]
  refine wpAnyH_take (i := 49) (oi := ⟨some 130, _, _, _, _, _⟩) (v := ?vh50) rfl (by kernel_rfl) (by kernel_rfl) (by kernel_rfl) (fun _ _ _ h => h) (Or.inl ⟨by rfl, ?hyh50⟩) hHeld ?resth50
  case hyh50 => (intro wq hSw; (try dsimp only at hSw); go_simp; (try with_reducible rfl))
  try simp only [Act.put, List.setIfInBounds_toArray, List.set_cons_zero, List.set_cons_succ]
  refine wpAnyH_take (i := 50) (oi := ⟨some 131, _, _, _, _, _⟩) (v := ?vh51) rfl (by kernel_rfl) (by kernel_rfl) (by kernel_rfl) (fun _ _ _ h => h) (Or.inl ⟨by rfl, ?hyh51⟩) hHeld ?resth51
  case hyh51 => (intro wq hSw; (try dsimp only at hSw); go_simp; (try with_reducible rfl))
  try simp only [Act.put, List.setIfInBounds_toArray, List.set_cons_zero, List.set_cons_succ]
  refine wpAnyH_take (i := 51) (oi := ⟨some 132, _, _, _, _, _⟩) (v := ?vh52) rfl (by kernel_rfl) (by kernel_rfl) (by kernel_rfl) (fun _ _ _ h => h) (Or.inl ⟨by rfl, ?hyh52⟩) hHeld ?resth52
  case hyh52 => (intro wq hSw; (try dsimp only at hSw); go_simp; (try with_reducible rfl))
  try simp only [Act.put, List.setIfInBounds_toArray, List.set_cons_zero, List.set_cons_succ]
  refine wpAnyH_take (i := 52) (oi := ⟨some 133, _, _, _, _, _⟩) (v := ?vh53) rfl (by kernel_rfl) (by kernel_rfl) (by kernel_rfl) (fun _ _ _ h => h) (Or.inl ⟨by rfl, ?hyh53⟩) hHeld ?resth53
  case hyh53 => (intro wq hSw; (try dsimp only at hSw); go_simp; (try with_reducible rfl))
  try simp only [Act.put, List.setIfInBounds_toArray, List.set_cons_zero, List.set_cons_succ]
  refine wpAnyH_take (i := 53) (oi := ⟨some 134, _, _, _, _, _⟩) (v := ?vh54) rfl (by kernel_rfl) (by kernel_rfl) (by kernel_rfl) (fun _ _ _ h => h) (Or.inl ⟨by rfl, ?hyh54⟩) hHeld ?resth54
  case hyh54 => (intro wq hSw; (try dsimp only at hSw); go_simp; (try with_reducible rfl))
  try simp only [Act.put, List.setIfInBounds_toArray, List.set_cons_zero, List.set_cons_succ]
  refine wpAnyH_take (i := 54) (oi := ⟨some 135, _, _, _, _, _⟩) (v := ?vh55) rfl (by kernel_rfl) (by kernel_rfl) (by kernel_rfl) (fun _ _ _ h => h) (Or.inl ⟨by rfl, ?hyh55⟩) hHeld ?resth55
  case hyh55 => (intro wq hSw; (try dsimp only at hSw); go_simp; (try with_reducible rfl))
  try simp only [Act.put, List.setIfInBounds_toArray, List.set_cons_zero, List.set_cons_succ]
  refine wpAnyH_take (i := 55) (oi := ⟨some 136, _, _, _, _, _⟩) (v := ?vh56) rfl (by kernel_rfl) (by kernel_rfl) (by kernel_rfl) (fun _ _ _ h => h) (Or.inl ⟨by rfl, ?hyh56⟩) hHeld ?resth56
  case hyh56 => (intro wq hSw; (try dsimp only at hSw); go_simp; (try with_reducible rfl))
  try simp only [Act.put, List.setIfInBounds_toArray, List.set_cons_zero, List.set_cons_succ]
  refine wpAnyH_take (i := 56) (oi := ⟨some 137, _, _, _, _, _⟩) (v := ?vh57) rfl (by kernel_rfl) (by kernel_rfl) (by kernel_rfl) (fun _ _ _ h => h) (Or.inl ⟨by rfl, ?hyh57⟩) hHeld ?resth57
  case hyh57 => (intro wq hSw; (try dsimp only at hSw); go_simp; (try with_reducible rfl))
  try simp only [Act.put, List.setIfInBounds_toArray, List.set_cons_zero, List.set_cons_succ]
  refine wpAnyH_take (i := 57) (oi := ⟨some 138, _, _, _, _, _⟩) (v := ?vh58) rfl (by kernel_rfl) (by kernel_rfl) (by kernel_rfl) (fun _ _ _ h => h) (Or.inl ⟨by rfl, ?hyh58⟩) hHeld ?resth58
  case hyh58 => (intro wq hSw; (try dsimp only at hSw); go_simp; (try with_reducible rfl))
  try simp only [Act.put, List.setIfInBounds_toArray, List.set_cons_zero, List.set_cons_succ]
  refine wpAnyH_take (i := 58) (oi := ⟨some 139, _, _, _, _, _⟩) (v := ?vh59) rfl (by kernel_rfl) (by kernel_rfl) (by kernel_rfl) (fun _ _ _ h => h) (Or.inl ⟨by rfl, ?hyh59⟩) hHeld ?resth59
  case hyh59 => (intro wq hSw; (try dsimp only at hSw); go_simp; (try with_reducible rfl))
  try simp only [Act.put, List.setIfInBounds_toArray, List.set_cons_zero, List.set_cons_succ]
  refine wpAnyH_take (i := 59) (oi := ⟨some 140, _, _, _, _, _⟩) (v := ?vh60) rfl (by kernel_rfl) (by kernel_rfl) (by kernel_rfl) (fun _ _ _ h => h) (Or.inl ⟨by rfl, ?hyh60⟩) hHeld ?resth60
  case hyh60 => (intro wq hSw; (try dsimp only at hSw); go_simp; (try with_reducible rfl))
  try simp only [Act.put, List.setIfInBounds_toArray, List.set_cons_zero, List.set_cons_succ]
  refine wpAnyH_take (i := 60) (oi := ⟨some 141, _, _, _, _, _⟩) (v := ?vh61) rfl (by kernel_rfl) (by kernel_rfl) (by kernel_rfl) (fun _ _ _ h => h) (Or.inl ⟨by rfl, ?hyh61⟩) hHeld ?resth61
  case hyh61 => (intro wq hSw; (try dsimp only at hSw); go_simp; (try with_reducible rfl))
  try simp only [Act.put, List.setIfInBounds_toArray, List.set_cons_zero, List.set_cons_succ]
  refine wpAnyH_take (i := 61) (oi := ⟨some 142, _, _, _, _, _⟩) (v := ?vh62) rfl (by kernel_rfl) (by kernel_rfl) (by kernel_rfl) (fun _ _ _ h => h) (Or.inl ⟨by rfl, ?hyh62⟩) hHeld ?resth62
  case hyh62 => (intro wq hSw; (try dsimp only at hSw); go_simp; (try with_reducible rfl))
  try simp only [Act.put, List.setIfInBounds_toArray, List.set_cons_zero, List.set_cons_succ]
  refine wpAnyH_take (i := 62) (oi := ⟨some 143, _, _, _, _, _⟩) (v := ?vh63) rfl (by kernel_rfl) (by kernel_rfl) (by kernel_rfl) (fun _ _ _ h => h) (Or.inl ⟨by rfl, ?hyh63⟩) hHeld ?resth63
  case hyh63 => (intro wq hSw; (try dsimp only at hSw); go_simp; (try with_reducible rfl))
  try simp only [Act.put, List.setIfInBounds_toArray, List.set_cons_zero, List.set_cons_succ]
  refine wpAnyH_take (i := 63) (oi := ⟨some 144, _, _, _, _, _⟩) (v := ?vh64) rfl (by kernel_rfl) (by kernel_rfl) (by kernel_rfl) (fun _ _ _ h => h) (Or.inl ⟨by rfl, ?hyh64⟩) hHeld ?resth64
  case hyh64 => (intro wq hSw; (try dsimp only at hSw); go_simp; (try with_reducible rfl))
  try simp only [Act.put, List.setIfInBounds_toArray, List.set_cons_zero, List.set_cons_succ]
  refine wpAnyH_take (i := 64) (oi := ⟨some 145, _, _, _, _, _⟩) (v := ?vh65) rfl (by kernel_rfl) (by kernel_rfl) (by kernel_rfl) (fun _ _ _ h => h) (Or.inl ⟨by rfl, ?hyh65⟩) hHeld ?resth65
  case hyh65 => (intro wq hSw; (try dsimp only at hSw); go_simp; (try with_reducible rfl))
  try simp only [Act.put, List.setIfInBounds_toArray, List.set_cons_zero, List.set_cons_succ]
  refine wpAnyH_take (i := 65) (oi := ⟨some 146, _, _, _, _, _⟩) (v := ?vh66) rfl (by kernel_rfl) (by kernel_rfl) (by kernel_rfl) (fun _ _ _ h => h) (Or.inl ⟨by rfl, ?hyh66⟩) hHeld ?resth66
  case hyh66 => (intro wq hSw; (try dsimp only at hSw); go_simp; (try with_reducible rfl))
  try simp only [Act.put, List.setIfInBounds_toArray, List.set_cons_zero, List.set_cons_succ]
  refine wpAnyH_take (i := 66) (oi := ⟨some 147, _, _, _, _, _⟩) (v := ?vh67) rfl (by kernel_rfl) (by kernel_rfl) (by kernel_rfl) (fun _ _ _ h => h) (Or.inl ⟨by rfl, ?hyh67⟩) hHeld ?resth67
  case hyh67 => (intro wq hSw; (try dsimp only at hSw); go_simp; (try with_reducible rfl))
  try simp only [Act.put, List.setIfInBounds_toArray, List.set_cons_zero, List.set_cons_succ]
  refine wpAnyH_take (i := 67) (oi := ⟨some 148, _, _, _, _, _⟩) (v := ?vh68) rfl (by kernel_rfl) (by kernel_rfl) (by kernel_rfl) (fun _ _ _ h => h) (Or.inl ⟨by rfl, ?hyh68⟩) hHeld ?resth68
  case hyh68 => (intro wq hSw; (try dsimp only at hSw); go_simp; (try with_reducible rfl))
  try simp only [Act.put, List.setIfInBounds_toArray, List.set_cons_zero, List.set_cons_succ]
  refine wpAnyH_take (i := 68) (oi := ⟨some 149, _, _, _, _, _⟩) (v := ?vh69) rfl (by kernel_rfl) (by kernel_rfl) (by kernel_rfl) (fun _ _ _ h => h) (Or.inl ⟨by rfl, ?hyh69⟩) hHeld ?resth69
  case hyh69 => (intro wq hSw; (try dsimp only at hSw); go_simp; (try with_reducible rfl))
  try simp only [Act.put, List.setIfInBounds_toArray, List.set_cons_zero, List.set_cons_succ]
  refine wpAnyH_take (i := 69) (oi := ⟨some 150, _, _, _, _, _⟩) (v := ?vh70) rfl (by kernel_rfl) (by kernel_rfl) (by kernel_rfl) (fun _ _ _ h => h) (Or.inl ⟨by rfl, ?hyh70⟩) hHeld ?resth70
  case hyh70 => (intro wq hSw; (try dsimp only at hSw); go_simp; (try with_reducible rfl))
  try simp only [Act.put, List.setIfInBounds_toArray, List.set_cons_zero, List.set_cons_succ]
  refine wpAnyH_take (i := 70) (oi := ⟨some 151, _, _, _, _, _⟩) (v := ?vh71) rfl (by kernel_rfl) (by kernel_rfl) (by kernel_rfl) (fun _ _ _ h => h) (Or.inl ⟨by rfl, ?hyh71⟩) hHeld ?resth71
  case hyh71 => (intro wq hSw; (try dsimp only at hSw); go_simp; (try with_reducible rfl))
  try simp only [Act.put, List.setIfInBounds_toArray, List.set_cons_zero, List.set_cons_succ]
  refine wpAnyH_ready (rs := [71]) (by kernel_rfl) (by simp) ?_
  refine AllReadyH.cons (o := ⟨some 152, _, _, _, _, _⟩) rfl (fun K hK => ?_) AllReadyH.nil
  go_simp
  refine (exit44 _).mono ?_; rintro e wz ⟨rfl, uz⟩; have U := U.trans ((Upd.refl [] w8).drew.trans uz); have q1 := uz.cell q1 (by simp); have q4 := uz.cell q4 (by simp); have d0 := uz.cell d0 (by simp); have d1 := uz.cell d1 (by simp); have d2 := uz.cell d2 (by simp); have d3 := uz.cell d3 (by simp); have d4 := uz.cell d4 (by simp)
  refine hK.out _ _ (by exact ⟨q1, q4, d0, d1, d2, d3, d4⟩) (fun hHeld => ?_)
  clear hK K
  try simp only [Act.put, List.setIfInBounds_toArray, List.set_cons_zero, List.set_cons_succ]
  refine wpAnyH_take (i := 72) (oi := ⟨some 153, _, _, _, _, _⟩) (v := ?vh72) rfl (by kernel_rfl) (by kernel_rfl) (by kernel_rfl) (fun _ _ _ h => h) (Or.inl ⟨by rfl, ?hyh72⟩) hHeld ?resth72
  case hyh72 => (intro wq hSw; (try dsimp only at hSw); go_simp; (try with_reducible rfl))
  try simp only [Act.put, List.setIfInBounds_toArray, List.set_cons_zero, List.set_cons_succ]
  refine wpAnyH_take (i := 73) (oi := ⟨some 154, _, _, _, _, _⟩) (v := ?vh73) rfl (by kernel_rfl) (by kernel_rfl) (by kernel_rfl) (fun _ _ _ h => h) (Or.inl ⟨by rfl, ?hyh73⟩) hHeld ?resth73
  case hyh73 => (intro wq hSw; (try dsimp only at hSw); go_simp; (try with_reducible rfl))
  try simp only [Act.put, List.setIfInBounds_toArray, List.set_cons_zero, List.set_cons_succ]
  refine wpAnyH_take (i := 74) (oi := ⟨some 155, _, _, _, _, _⟩) (v := ?vh74) rfl (by kernel_rfl) (by kernel_rfl) (by kernel_rfl) (fun _ _ _ h => h) (Or.inl ⟨by rfl, ?hyh74⟩) hHeld ?resth74
  case hyh74 => (intro wq hSw; (try dsimp only at hSw); go_simp; (try with_reducible rfl))
  try simp only [Act.put, List.setIfInBounds_toArray, List.set_cons_zero, List.set_cons_succ]
  refine wpAnyH_take (i := 75) (oi := ⟨some 156, _, _, _, _, _⟩) (v := ?vh75) rfl (by kernel_rfl) (by kernel_rfl) (by kernel_rfl) (fun _ _ _ h => h) (Or.inl ⟨by rfl, ?hyh75⟩) hHeld ?resth75
  case hyh75 => (intro wq hSw; (try dsimp only at hSw); go_simp; (try with_reducible rfl))
  try simp only [Act.put, List.setIfInBounds_toArray, List.set_cons_zero, List.set_cons_succ]
  refine wpAnyH_take (i := 76) (oi := ⟨some 157, _, _, _, _, _⟩) (v := ?vh76) rfl (by kernel_rfl) (by kernel_rfl) (by kernel_rfl) (fun _ _ _ h => h) (Or.inl ⟨by rfl, ?hyh76⟩) hHeld ?resth76
  case hyh76 => (intro wq hSw; (try dsimp only at hSw); go_simp; (try with_reducible rfl))
  try simp only [Act.put, List.setIfInBounds_toArray, List.set_cons_zero, List.set_cons_succ]
  refine wpAnyH_take (i := 77) (oi := ⟨some 158, _, _, _, _, _⟩) (v := ?vh77) rfl (by kernel_rfl) (by kernel_rfl) (by kernel_rfl) (fun _ _ _ h => h) (Or.inl ⟨by rfl, ?hyh77⟩) hHeld ?resth77
  case hyh77 => (intro wq hSw; (try dsimp only at hSw); go_simp; (try with_reducible rfl))
  try simp only [Act.put, List.setIfInBounds_toArray, List.set_cons_zero, List.set_cons_succ]
  refine wpAnyH_take (i := 78) (oi := ⟨some 159, _, _, _, _, _⟩) (v := ?vh78) rfl (by kernel_rfl) (by kernel_rfl) (by kernel_rfl) (fun _ _ _ h => h) (Or.inl ⟨by rfl, ?hyh78⟩) hHeld ?resth78
  case hyh78 => (intro wq hSw; (try dsimp only at hSw); go_simp; (try with_reducible rfl))
  try simp only [Act.put, List.setIfInBounds_toArray, List.set_cons_zero, List.set_cons_succ]
  refine wpAnyH_take (i := 79) (oi := ⟨some 160, _, _, _, _, _⟩) (v := ?vh79) rfl (by kernel_rfl) (by kernel_rfl) (by kernel_rfl) (fun _ _ _ h => h) (Or.inl ⟨by rfl, ?hyh79⟩) hHeld ?resth79
  case hyh79 => (intro wq hSw; (try dsimp only at hSw); go_simp; (try with_reducible rfl))
  try simp only [Act.put, List.setIfInBounds_toArray, List.set_cons_zero, List.set_cons_succ]
  refine wpAnyH_take (i := 80) (oi := ⟨some 161, _, _, _, _, _⟩) (v := ?vh80) rfl (by kernel_rfl) (by kernel_rfl) (by kernel_rfl) (fun _ _ _ h => h) (Or.inl ⟨by rfl, ?hyh80⟩) hHeld ?resth80
  case hyh80 => (intro wq hSw; (try dsimp only at hSw); go_simp; (try with_reducible rfl))
  try simp only [Act.put, List.setIfInBounds_toArray, List.set_cons_zero, List.set_cons_succ]
  refine wpAnyH_take (i := 81) (oi := ⟨some 162, _, _, _, _, _⟩) (v := ?vh81) rfl (by kernel_rfl) (by kernel_rfl) (by kernel_rfl) (fun _ _ _ h => h) (Or.inl ⟨by rfl, ?hyh81⟩) hHeld ?resth81
  case hyh81 => (intro wq hSw; (try dsimp only at hSw); go_simp; (try with_reducible rfl))
  try simp only [Act.put, List.setIfInBounds_toArray, List.set_cons_zero, List.set_cons_succ]
  refine wpAnyH_take (i := 82) (oi := ⟨some 0, _, _, _, _, _⟩) (v := ?vh82) rfl (by kernel_rfl) (by kernel_rfl) (by kernel_rfl) (fun _ _ _ h => h) (Or.inl ⟨by rfl, ?hyh82⟩) hHeld ?resth82
  case hyh82 => (intro wq hSw; (try dsimp only at hSw); go_simp; (try with_reducible rfl))
  try simp only [Act.put, List.setIfInBounds_toArray, List.set_cons_zero, List.set_cons_succ]
  refine wpAnyH_done (by kernel_rfl) ?_ _
  go_wp2_with fail
  go_ret
  exact ⟨rfl, U⟩
end Go.Proofs.Ytibghcmkmbamjaa
