/- code: strays. (Printed by gen_strays.py.) -/
import Derived.Test.YtibghcmkmbamjaaGObj
namespace Go.Proofs.Ytibghcmkmbamjaa
open Go.RowKit
set_option linter.unusedVariables false
set_option linter.unusedSimpArgs false
set_option linter.unusedSectionVars false
section
variable {w : World} {p : Nat} {A : Option Addr} {c : Nat} {l : List Ins} {bm : Nat} {b : List Int} {vS : Value}
set_option maxRecDepth 100000 in
set_option maxHeartbeats 4000000 in
theorem strays67_i (h : Prg w p A c l bm b vS) (n : Nat) (hn : n < l.length) (hr : (nextP l (n : Int)).any (lostP l b) = true) :
    Calls Try.prog 67 #[.pointer (some ⟨p, 0, none⟩), .int .i64 (n : Int)] w fun e w' => e = .returned (.bool true) ∧ Upd [] w w' := by
  have hll := h.len
  have u1 := (Upd.refl [] w).alloc (.cells #[.pointer (some ⟨p, 0, none⟩)] 82)
  have hp := heap_alloc_new w (.cells #[.pointer (some ⟨p, 0, none⟩)] 82)
  obtain ⟨W, hW⟩ : ∃ W, W = w.alloc (.cells #[.pointer (some ⟨p, 0, none⟩)] 82) := ⟨_, rfl⟩
  rw [← hW] at u1 hp
  have h1 := h.keep u1
  have hN := fun (W' : World) (u' : Upd [] W W') => next38' c (h1.keep u').row h.ok (n : Int) (by omega)
  have hL := fun (W' : World) (u' : Upd [] W W') (B : Option Addr) (k : Nat) (hB : RowsAt W' B 1 ((nextP l (n : Int)).map encZi)) => has101 k hB (by have := nextP_len l (n : Int); omega) 100 #[] #[.pointer (some ⟨w.heap.size, 0, none⟩)] (enters_of Try.func100 (by kernel_rfl) rfl) (lostP l b) (fun x hx W2 u2 => lost100 (h1.keep u') (u'.heap hp (by simp)) x (next_ok h.ok (n : Int) (by omega) (by omega) x hx) W2 u2)
  rw [hr] at hL
  have hC := fun (W' : World) (u' : Upd [] W W') => callee37 c (h1.keep u').row h.ok (n : Int) (by omega)
  have hK := fun (W' : World) (u' : Upd [] W W') => kind85 c (h1.keep u').row h.ok (n : Int)
  simp only [ansC] at hC
  generalize (calleeP l (n : Int)).getD 0 = tt at hC
  generalize (calleeP l (n : Int)).isSome = nm at hC
  have hk : True := trivial
  have kb0 := cell_of hp 0
  have c00 := cell_of h1.blk 0
  have c10 := cell_of h1.blk 1
  have lp0 := lt_of_heap h1.blk
  have lb0 := lt_of_heap hp
  simp only [List.getElem?_toArray, List.getElem?_cons_zero, List.getElem?_cons_succ] at kb0 c00 c10
  clear h h1 hr hp hn
  generalize nextP l (n : Int) = nx at hN hL
  generalize kindP l (n : Int) = k at hK
  go_enter Try.func67, Try.ntmps67
  go_upto_region 1 with fail
  rw [← hW]
  clear hW
  generalize w.heap.size = b1 at hL kb0 lb0 ⊢
  go_wp2_with fail
  refine (hC _ (Upd.refl [] W)).mono ?_
  rintro e w2 ⟨rfl, u2⟩
  have uu := u2
  have kb := uu.cell kb0 (by simp)
  have c0 := uu.cell c00 (by simp)
  have lp := Nat.lt_of_lt_of_le lp0 uu.size
  have lb := Nat.lt_of_lt_of_le lb0 uu.size
  go_wp2_with fail
  refine (hK _ uu).mono ?_
  rintro e w3 ⟨rfl, u3⟩
  replace uu := uu.trans u3
  clear kb c0 lp lb
  have kb := uu.cell kb0 (by simp)
  have c0 := uu.cell c00 (by simp)
  have lp := Nat.lt_of_lt_of_le lp0 uu.size
  have lb := Nat.lt_of_lt_of_le lb0 uu.size
  clear u2 u3 hC hK
  cases hk9 : (k == 9)
  all_goals
    go_upto_region 4 with fail
    have kb := uu.cell kb0 (by simp); have c0 := uu.cell c00 (by simp); have lp := Nat.lt_of_lt_of_le lp0 uu.size; have lb := Nat.lt_of_lt_of_le lb0 uu.size
    go_wp2_with (first | (go_at_call 38; refine (hN _ uu).mono ?_; rintro e w9 ⟨B9, k9, rfl, hB9, u9⟩; replace uu := uu.trans u9; clear kb c0 lp lb; have kb := uu.cell kb0 (by simp); have c0 := uu.cell c00 (by simp); have lp := Nat.lt_of_lt_of_le lp0 uu.size; have lb := Nat.lt_of_lt_of_le lb0 uu.size) | (go_at_call 101; refine (hL _ uu B9 k9 hB9).mono ?_; rintro e w10 ⟨rfl, u10⟩; replace uu := uu.trans u10; clear kb c0 lp lb; have kb := uu.cell kb0 (by simp); have c0 := uu.cell c00 (by simp); have lp := Nat.lt_of_lt_of_le lp0 uu.size; have lb := Nat.lt_of_lt_of_le lb0 uu.size))
    go_ret
    exact ⟨rfl, u1.trans uu⟩
set_option maxRecDepth 100000 in
set_option maxHeartbeats 4000000 in
theorem strays67_ii (h : Prg w p A c l bm b vS) (n : Nat) (hn : n < l.length) (hr : (nextP l (n : Int)).any (lostP l b) = false) (ho : calleeP l (n : Int) = none) :
    Calls Try.prog 67 #[.pointer (some ⟨p, 0, none⟩), .int .i64 (n : Int)] w fun e w' => e = .returned (.bool false) ∧ Upd [] w w' := by
  have hll := h.len
  have u1 := (Upd.refl [] w).alloc (.cells #[.pointer (some ⟨p, 0, none⟩)] 82)
  have hp := heap_alloc_new w (.cells #[.pointer (some ⟨p, 0, none⟩)] 82)
  obtain ⟨W, hW⟩ : ∃ W, W = w.alloc (.cells #[.pointer (some ⟨p, 0, none⟩)] 82) := ⟨_, rfl⟩
  rw [← hW] at u1 hp
  have h1 := h.keep u1
  have hN := fun (W' : World) (u' : Upd [] W W') => next38' c (h1.keep u').row h.ok (n : Int) (by omega)
  have hL := fun (W' : World) (u' : Upd [] W W') (B : Option Addr) (k : Nat) (hB : RowsAt W' B 1 ((nextP l (n : Int)).map encZi)) => has101 k hB (by have := nextP_len l (n : Int); omega) 100 #[] #[.pointer (some ⟨w.heap.size, 0, none⟩)] (enters_of Try.func100 (by kernel_rfl) rfl) (lostP l b) (fun x hx W2 u2 => lost100 (h1.keep u') (u'.heap hp (by simp)) x (next_ok h.ok (n : Int) (by omega) (by omega) x hx) W2 u2)
  rw [hr] at hL
  have hC := fun (W' : World) (u' : Upd [] W W') => callee37 c (h1.keep u').row h.ok (n : Int) (by omega)
  have hK := fun (W' : World) (u' : Upd [] W W') => kind85 c (h1.keep u').row h.ok (n : Int)
  rw [ho] at hC
  simp only [ansC, Option.getD_none, Option.isSome_none] at hC
  have hk : True := trivial
  have kb0 := cell_of hp 0
  have c00 := cell_of h1.blk 0
  have c10 := cell_of h1.blk 1
  have lp0 := lt_of_heap h1.blk
  have lb0 := lt_of_heap hp
  simp only [List.getElem?_toArray, List.getElem?_cons_zero, List.getElem?_cons_succ] at kb0 c00 c10
  clear h h1 hr hp hn ho
  generalize nextP l (n : Int) = nx at hN hL
  generalize kindP l (n : Int) = k at hK
  go_enter Try.func67, Try.ntmps67
  go_upto_region 1 with fail
  rw [← hW]
  clear hW
  generalize w.heap.size = b1 at hL kb0 lb0 ⊢
  go_wp2_with fail
  refine (hC _ (Upd.refl [] W)).mono ?_
  rintro e w2 ⟨rfl, u2⟩
  have uu := u2
  have kb := uu.cell kb0 (by simp)
  have c0 := uu.cell c00 (by simp)
  have lp := Nat.lt_of_lt_of_le lp0 uu.size
  have lb := Nat.lt_of_lt_of_le lb0 uu.size
  go_wp2_with fail
  refine (hK _ uu).mono ?_
  rintro e w3 ⟨rfl, u3⟩
  replace uu := uu.trans u3
  clear kb c0 lp lb
  have kb := uu.cell kb0 (by simp)
  have c0 := uu.cell c00 (by simp)
  have lp := Nat.lt_of_lt_of_le lp0 uu.size
  have lb := Nat.lt_of_lt_of_le lb0 uu.size
  clear u2 u3 hC hK
  cases hk9 : (k == 9)
  all_goals
    go_upto_region 4 with fail
    have kb := uu.cell kb0 (by simp); have c0 := uu.cell c00 (by simp); have lp := Nat.lt_of_lt_of_le lp0 uu.size; have lb := Nat.lt_of_lt_of_le lb0 uu.size
    go_wp2_with (first | (go_at_call 38; refine (hN _ uu).mono ?_; rintro e w9 ⟨B9, k9, rfl, hB9, u9⟩; replace uu := uu.trans u9; clear kb c0 lp lb; have kb := uu.cell kb0 (by simp); have c0 := uu.cell c00 (by simp); have lp := Nat.lt_of_lt_of_le lp0 uu.size; have lb := Nat.lt_of_lt_of_le lb0 uu.size) | (go_at_call 101; refine (hL _ uu B9 k9 hB9).mono ?_; rintro e w10 ⟨rfl, u10⟩; replace uu := uu.trans u10; clear kb c0 lp lb; have kb := uu.cell kb0 (by simp); have c0 := uu.cell c00 (by simp); have lp := Nat.lt_of_lt_of_le lp0 uu.size; have lb := Nat.lt_of_lt_of_le lb0 uu.size))
    go_ret
    exact ⟨rfl, u1.trans uu⟩
set_option maxRecDepth 100000 in
set_option maxHeartbeats 4000000 in
theorem strays67_iii (h : Prg w p A c l bm b vS) (n : Nat) (hn : n < l.length) (hr : (nextP l (n : Int)).any (lostP l b) = false) (t : Int) (ho : calleeP l (n : Int) = some t) (hb : decide (t ∈ b) = false) :
    Calls Try.prog 67 #[.pointer (some ⟨p, 0, none⟩), .int .i64 (n : Int)] w fun e w' => e = .returned (.bool true) ∧ Upd [] w w' := by
  have hll := h.len
  have u1 := (Upd.refl [] w).alloc (.cells #[.pointer (some ⟨p, 0, none⟩)] 82)
  have hp := heap_alloc_new w (.cells #[.pointer (some ⟨p, 0, none⟩)] 82)
  obtain ⟨W, hW⟩ : ∃ W, W = w.alloc (.cells #[.pointer (some ⟨p, 0, none⟩)] 82) := ⟨_, rfl⟩
  rw [← hW] at u1 hp
  have h1 := h.keep u1
  have hN := fun (W' : World) (u' : Upd [] W W') => next38' c (h1.keep u').row h.ok (n : Int) (by omega)
  have hL := fun (W' : World) (u' : Upd [] W W') (B : Option Addr) (k : Nat) (hB : RowsAt W' B 1 ((nextP l (n : Int)).map encZi)) => has101 k hB (by have := nextP_len l (n : Int); omega) 100 #[] #[.pointer (some ⟨w.heap.size, 0, none⟩)] (enters_of Try.func100 (by kernel_rfl) rfl) (lostP l b) (fun x hx W2 u2 => lost100 (h1.keep u') (u'.heap hp (by simp)) x (next_ok h.ok (n : Int) (by omega) (by omega) x hx) W2 u2)
  rw [hr] at hL
  have hC := fun (W' : World) (u' : Upd [] W W') => callee37 c (h1.keep u').row h.ok (n : Int) (by omega)
  have hK := fun (W' : World) (u' : Upd [] W W') => kind85 c (h1.keep u').row h.ok (n : Int)
  have htk := callee_ok h.ok (n : Int) t (by omega) (by omega) ho
  rw [ho] at hC
  simp only [ansC, Option.getD_some, Option.isSome_some] at hC
  have hlk : ∀ W', Upd [] W W' → (Instr.lookup 83 (.map (some bm)) (.int .i64 t) false).run Try.prog W' = .ok (.bool false) W' := fun W' u' => by
    obtain ⟨bs, hm, hbs⟩ := (h1.keep u').begins
    have := look83 hm t htk
    rwa [hbs t, hb] at this
  have hk : True := trivial
  have kb0 := cell_of hp 0
  have c00 := cell_of h1.blk 0
  have c10 := cell_of h1.blk 1
  have lp0 := lt_of_heap h1.blk
  have lb0 := lt_of_heap hp
  simp only [List.getElem?_toArray, List.getElem?_cons_zero, List.getElem?_cons_succ] at kb0 c00 c10
  clear h h1 hr hp hn ho hb
  generalize nextP l (n : Int) = nx at hN hL
  generalize kindP l (n : Int) = k at hK
  go_enter Try.func67, Try.ntmps67
  go_upto_region 1 with fail
  rw [← hW]
  clear hW
  generalize w.heap.size = b1 at hL kb0 lb0 ⊢
  go_wp2_with fail
  refine (hC _ (Upd.refl [] W)).mono ?_
  rintro e w2 ⟨rfl, u2⟩
  have uu := u2
  have kb := uu.cell kb0 (by simp)
  have c0 := uu.cell c00 (by simp)
  have lp := Nat.lt_of_lt_of_le lp0 uu.size
  have lb := Nat.lt_of_lt_of_le lb0 uu.size
  go_wp2_with fail
  refine (hK _ uu).mono ?_
  rintro e w3 ⟨rfl, u3⟩
  replace uu := uu.trans u3
  clear kb c0 lp lb
  have kb := uu.cell kb0 (by simp)
  have c0 := uu.cell c00 (by simp)
  have lp := Nat.lt_of_lt_of_le lp0 uu.size
  have lb := Nat.lt_of_lt_of_le lb0 uu.size
  clear u2 u3 hC hK
  cases hk9 : (k == 9)
  all_goals
    go_upto_region 4 with fail
    have kb := uu.cell kb0 (by simp); have c0 := uu.cell c00 (by simp); have lp := Nat.lt_of_lt_of_le lp0 uu.size; have lb := Nat.lt_of_lt_of_le lb0 uu.size; have c1 := uu.cell c10 (by simp); have r1 := hlk _ uu
    go_wp2_with (first | (go_at_call 38; refine (hN _ uu).mono ?_; rintro e w9 ⟨B9, k9, rfl, hB9, u9⟩; replace uu := uu.trans u9; clear kb c0 lp lb c1 r1; have kb := uu.cell kb0 (by simp); have c0 := uu.cell c00 (by simp); have lp := Nat.lt_of_lt_of_le lp0 uu.size; have lb := Nat.lt_of_lt_of_le lb0 uu.size; have c1 := uu.cell c10 (by simp); have r1 := hlk _ uu) | (go_at_call 101; refine (hL _ uu B9 k9 hB9).mono ?_; rintro e w10 ⟨rfl, u10⟩; replace uu := uu.trans u10; clear kb c0 lp lb c1 r1; have kb := uu.cell kb0 (by simp); have c0 := uu.cell c00 (by simp); have lp := Nat.lt_of_lt_of_le lp0 uu.size; have lb := Nat.lt_of_lt_of_le lb0 uu.size; have c1 := uu.cell c10 (by simp); have r1 := hlk _ uu))
    go_ret
    exact ⟨rfl, u1.trans uu⟩
set_option maxRecDepth 100000 in
set_option maxHeartbeats 4000000 in
theorem strays67_iv (h : Prg w p A c l bm b vS) (n : Nat) (hn : n < l.length) (hr : (nextP l (n : Int)).any (lostP l b) = false) (t : Int) (ho : calleeP l (n : Int) = some t) (hb : decide (t ∈ b) = true) (hk : (kindP l (n : Int) == 9) = false) :
    Calls Try.prog 67 #[.pointer (some ⟨p, 0, none⟩), .int .i64 (n : Int)] w fun e w' => e = .returned (.bool false) ∧ Upd [] w w' := by
  have hll := h.len
  have u1 := (Upd.refl [] w).alloc (.cells #[.pointer (some ⟨p, 0, none⟩)] 82)
  have hp := heap_alloc_new w (.cells #[.pointer (some ⟨p, 0, none⟩)] 82)
  obtain ⟨W, hW⟩ : ∃ W, W = w.alloc (.cells #[.pointer (some ⟨p, 0, none⟩)] 82) := ⟨_, rfl⟩
  rw [← hW] at u1 hp
  have h1 := h.keep u1
  have hN := fun (W' : World) (u' : Upd [] W W') => next38' c (h1.keep u').row h.ok (n : Int) (by omega)
  have hL := fun (W' : World) (u' : Upd [] W W') (B : Option Addr) (k : Nat) (hB : RowsAt W' B 1 ((nextP l (n : Int)).map encZi)) => has101 k hB (by have := nextP_len l (n : Int); omega) 100 #[] #[.pointer (some ⟨w.heap.size, 0, none⟩)] (enters_of Try.func100 (by kernel_rfl) rfl) (lostP l b) (fun x hx W2 u2 => lost100 (h1.keep u') (u'.heap hp (by simp)) x (next_ok h.ok (n : Int) (by omega) (by omega) x hx) W2 u2)
  rw [hr] at hL
  have hC := fun (W' : World) (u' : Upd [] W W') => callee37 c (h1.keep u').row h.ok (n : Int) (by omega)
  have hK := fun (W' : World) (u' : Upd [] W W') => kind85 c (h1.keep u').row h.ok (n : Int)
  have htk := callee_ok h.ok (n : Int) t (by omega) (by omega) ho
  rw [ho] at hC
  simp only [ansC, Option.getD_some, Option.isSome_some] at hC
  have hlk : ∀ W', Upd [] W W' → (Instr.lookup 83 (.map (some bm)) (.int .i64 t) false).run Try.prog W' = .ok (.bool true) W' := fun W' u' => by
    obtain ⟨bs, hm, hbs⟩ := (h1.keep u').begins
    have := look83 hm t htk
    rwa [hbs t, hb] at this
  have kb0 := cell_of hp 0
  have c00 := cell_of h1.blk 0
  have c10 := cell_of h1.blk 1
  have lp0 := lt_of_heap h1.blk
  have lb0 := lt_of_heap hp
  simp only [List.getElem?_toArray, List.getElem?_cons_zero, List.getElem?_cons_succ] at kb0 c00 c10
  clear h h1 hr hp hn ho hb
  generalize nextP l (n : Int) = nx at hN hL
  generalize kindP l (n : Int) = k at hK hk
  go_enter Try.func67, Try.ntmps67
  go_upto_region 1 with fail
  rw [← hW]
  clear hW
  generalize w.heap.size = b1 at hL kb0 lb0 ⊢
  go_wp2_with fail
  refine (hC _ (Upd.refl [] W)).mono ?_
  rintro e w2 ⟨rfl, u2⟩
  have uu := u2
  have kb := uu.cell kb0 (by simp)
  have c0 := uu.cell c00 (by simp)
  have lp := Nat.lt_of_lt_of_le lp0 uu.size
  have lb := Nat.lt_of_lt_of_le lb0 uu.size
  go_wp2_with fail
  refine (hK _ uu).mono ?_
  rintro e w3 ⟨rfl, u3⟩
  replace uu := uu.trans u3
  clear kb c0 lp lb
  have kb := uu.cell kb0 (by simp)
  have c0 := uu.cell c00 (by simp)
  have lp := Nat.lt_of_lt_of_le lp0 uu.size
  have lb := Nat.lt_of_lt_of_le lb0 uu.size
  clear u2 u3 hC hK
  go_upto_region 4 with fail
  have kb := uu.cell kb0 (by simp); have c0 := uu.cell c00 (by simp); have lp := Nat.lt_of_lt_of_le lp0 uu.size; have lb := Nat.lt_of_lt_of_le lb0 uu.size; have c1 := uu.cell c10 (by simp); have r1 := hlk _ uu
  go_wp2_with (first | (go_at_call 38; refine (hN _ uu).mono ?_; rintro e w9 ⟨B9, k9, rfl, hB9, u9⟩; replace uu := uu.trans u9; clear kb c0 lp lb c1 r1; have kb := uu.cell kb0 (by simp); have c0 := uu.cell c00 (by simp); have lp := Nat.lt_of_lt_of_le lp0 uu.size; have lb := Nat.lt_of_lt_of_le lb0 uu.size; have c1 := uu.cell c10 (by simp); have r1 := hlk _ uu) | (go_at_call 101; refine (hL _ uu B9 k9 hB9).mono ?_; rintro e w10 ⟨rfl, u10⟩; replace uu := uu.trans u10; clear kb c0 lp lb c1 r1; have kb := uu.cell kb0 (by simp); have c0 := uu.cell c00 (by simp); have lp := Nat.lt_of_lt_of_le lp0 uu.size; have lb := Nat.lt_of_lt_of_le lb0 uu.size; have c1 := uu.cell c10 (by simp); have r1 := hlk _ uu))
  go_ret
  exact ⟨rfl, u1.trans uu⟩
set_option maxRecDepth 100000 in
set_option maxHeartbeats 4000000 in
theorem strays67_v (h : Prg w p A c l bm b vS) (n : Nat) (hn : n < l.length) (hr : (nextP l (n : Int)).any (lostP l b) = false) (t : Int) (ho : calleeP l (n : Int) = some t) (hb : decide (t ∈ b) = true) (hk : (kindP l (n : Int) == 9) = true) (x : Ins) (hx : l[n + 1]? = some x) :
    Calls Try.prog 67 #[.pointer (some ⟨p, 0, none⟩), .int .i64 (n : Int)] w fun e w' => e = .returned (.bool (!decide (x.M = 0))) ∧ Upd [] w w' := by
  have hll := h.len
  have u1 := (Upd.refl [] w).alloc (.cells #[.pointer (some ⟨p, 0, none⟩)] 82)
  have hp := heap_alloc_new w (.cells #[.pointer (some ⟨p, 0, none⟩)] 82)
  obtain ⟨W, hW⟩ : ∃ W, W = w.alloc (.cells #[.pointer (some ⟨p, 0, none⟩)] 82) := ⟨_, rfl⟩
  rw [← hW] at u1 hp
  have h1 := h.keep u1
  have hN := fun (W' : World) (u' : Upd [] W W') => next38' c (h1.keep u').row h.ok (n : Int) (by omega)
  have hL := fun (W' : World) (u' : Upd [] W W') (B : Option Addr) (k : Nat) (hB : RowsAt W' B 1 ((nextP l (n : Int)).map encZi)) => has101 k hB (by have := nextP_len l (n : Int); omega) 100 #[] #[.pointer (some ⟨w.heap.size, 0, none⟩)] (enters_of Try.func100 (by kernel_rfl) rfl) (lostP l b) (fun x hx W2 u2 => lost100 (h1.keep u') (u'.heap hp (by simp)) x (next_ok h.ok (n : Int) (by omega) (by omega) x hx) W2 u2)
  rw [hr] at hL
  have hC := fun (W' : World) (u' : Upd [] W W') => callee37 c (h1.keep u').row h.ok (n : Int) (by omega)
  have hK := fun (W' : World) (u' : Upd [] W W') => kind85 c (h1.keep u').row h.ok (n : Int)
  have htk := callee_ok h.ok (n : Int) t (by omega) (by omega) ho
  rw [ho] at hC
  simp only [ansC, Option.getD_some, Option.isSome_some] at hC
  have hlk : ∀ W', Upd [] W W' → (Instr.lookup 83 (.map (some bm)) (.int .i64 t) false).run Try.prog W' = .ok (.bool true) W' := fun W' u' => by
    obtain ⟨bs, hm, hbs⟩ := (h1.keep u').begins
    have := look83 hm t htk
    rwa [hbs t, hb] at this
  have kb0 := cell_of hp 0
  have c00 := cell_of h1.blk 0
  have c10 := cell_of h1.blk 1
  have lp0 := lt_of_heap h1.blk
  have lb0 := lt_of_heap hp
  simp only [List.getElem?_toArray, List.getElem?_cons_zero, List.getElem?_cons_succ] at kb0 c00 c10
  have hrow1 := h1.row
  obtain ⟨m, hm⟩ : ∃ m, m = n + 1 := ⟨_, rfl⟩
  have hxl := (List.getElem?_eq_some_iff.1 hx).1
  rw [← hm] at hx hxl
  obtain ⟨bA, oA, rfl, -, -, -, -, x40⟩ := cellN hrow1 hx
  have y1 : IntKind.i64.wrap ((n : Int) + 1) = (m : Int) := by rw [IntWalk.i64_in _ (by omega), hm]; rfl
  have y2 : (0 : Int) ≤ (m : Int) := by omega
  have y3 : (m : Int) < (l.length : Int) := by omega
  have hres : (x.M != 0) = !decide (x.M = 0) := by rw [Bool.eq_iff_iff]; simp
  rw [← hres]
  clear hm hx hrow1 hres
  clear h h1 hr hp hn ho hb
  generalize nextP l (n : Int) = nx at hN hL
  generalize kindP l (n : Int) = k at hK hk
  go_enter Try.func67, Try.ntmps67
  go_upto_region 1 with fail
  rw [← hW]
  clear hW
  generalize w.heap.size = b1 at hL kb0 lb0 ⊢
  go_wp2_with fail
  refine (hC _ (Upd.refl [] W)).mono ?_
  rintro e w2 ⟨rfl, u2⟩
  have uu := u2
  have kb := uu.cell kb0 (by simp)
  have c0 := uu.cell c00 (by simp)
  have lp := Nat.lt_of_lt_of_le lp0 uu.size
  have lb := Nat.lt_of_lt_of_le lb0 uu.size
  go_wp2_with fail
  refine (hK _ uu).mono ?_
  rintro e w3 ⟨rfl, u3⟩
  replace uu := uu.trans u3
  clear kb c0 lp lb
  have kb := uu.cell kb0 (by simp)
  have c0 := uu.cell c00 (by simp)
  have lp := Nat.lt_of_lt_of_le lp0 uu.size
  have lb := Nat.lt_of_lt_of_le lb0 uu.size
  clear u2 u3 hC hK
  go_upto_region 4 with fail
  have kb := uu.cell kb0 (by simp); have c0 := uu.cell c00 (by simp); have lp := Nat.lt_of_lt_of_le lp0 uu.size; have lb := Nat.lt_of_lt_of_le lb0 uu.size; have c1 := uu.cell c10 (by simp); have r1 := hlk _ uu; have x4 := uu.cell x40 (by simp)
  go_wp2_with (first | (go_at_call 38; refine (hN _ uu).mono ?_; rintro e w9 ⟨B9, k9, rfl, hB9, u9⟩; replace uu := uu.trans u9; clear kb c0 lp lb c1 r1 x4; have kb := uu.cell kb0 (by simp); have c0 := uu.cell c00 (by simp); have lp := Nat.lt_of_lt_of_le lp0 uu.size; have lb := Nat.lt_of_lt_of_le lb0 uu.size; have c1 := uu.cell c10 (by simp); have r1 := hlk _ uu; have x4 := uu.cell x40 (by simp)) | (go_at_call 101; refine (hL _ uu B9 k9 hB9).mono ?_; rintro e w10 ⟨rfl, u10⟩; replace uu := uu.trans u10; clear kb c0 lp lb c1 r1 x4; have kb := uu.cell kb0 (by simp); have c0 := uu.cell c00 (by simp); have lp := Nat.lt_of_lt_of_le lp0 uu.size; have lb := Nat.lt_of_lt_of_le lb0 uu.size; have c1 := uu.cell c10 (by simp); have r1 := hlk _ uu; have x4 := uu.cell x40 (by simp)))
  go_ret
  exact ⟨rfl, u1.trans uu⟩
end
end Go.Proofs.Ytibghcmkmbamjaa
