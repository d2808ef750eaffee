/- The document's answer for the heap: Make. -/
import Derived.Test.YtgleceijdedlkaaRef14c
import Derived.Deep.RegionLaw
import Derived.Deep.DeepCutAuto
namespace Go.Proofs.Ytgleceijdedlkaa
set_option linter.unusedSectionVars false
set_option linter.unusedVariables false
set_option linter.unusedSimpArgs false
open Go.RowKit
theorem info106 : (Try.prog.info? 106).map (fun i => (i.zero, i.size, i.bytes)) = some (some (.agg #[.int .i64 0, .int .u64 0, .int .i64 0, .int .i64 0]), 4, 32) := by kernel_rfl
theorem orows (l : List Ob) : (∀ r ∈ l.map encO, r.length = 4) ∧ ∀ r ∈ l.map encO, ∀ u ∈ r, u.oneCell' = true := by
  constructor
  · intro r hr
    obtain ⟨q, _, rfl⟩ := List.mem_map.1 hr
    rfl
  · intro r hr u hu
    obtain ⟨q, _, rfl⟩ := List.mem_map.1 hr
    simp [encO] at hu
    rcases hu with rfl | rfl | rfl | rfl <;> rfl
theorem step_append_run {P : Program} {ops : Array Oper} {o : Oper} {a : Act} {w : World} {K : Act → World → Prop} {Q : Exit → Act → World → Prop} {E : Prop}
    (hg : o.guard = none) (s x : Operand) (t : TypeId) (hop : o.op = Op.call { callee := Callee.builtin Builtin.append, args := #[s, x], argTypes := #[t, t] })
    (v y : Value) (hs : a.eval s = v) (hx : a.eval x = y) (v' : Value) (w' : World) (hrun : (Builtin.append_ #[t, t] o.type #[v, y]).run P w = .ok v' w') (hK : K (a.put o.dst v') w') :
    if Region.wanted o (yielded ops a.tmps) = true then Oper.wp P o a w K Q else E := by
  have hw : Region.wanted o (yielded ops a.tmps) = true := by simp [Region.wanted, hg]
  rw [if_pos hw]
  unfold Oper.wp execOp
  simp only [hop, resolve, invoke, builtin, Sem.run_bind, Sem.run_pure, Result.andThen_ok, List.map_toArray, List.map_cons, List.map_nil, hs, hx, hrun]
  exact hK
theorem part_one4 (w : World) (x y z u : Value) : PartAt (w.alloc (.cells #[x, y, z, u] 106)) (.slice (some ⟨w.heap.size, 0, none⟩) 1 1) 4 [[x, y, z, u]] := by
  refine ⟨_, 1, rfl, fun i r hi => ?_, fun e => by cases e⟩
  cases i with
  | zero =>
    cases hi
    refine ⟨_, _, rfl, fun j v hj => ?_⟩
    have hb := heap_alloc_new w (.cells #[x, y, z, u] 106)
    match j, hj with
    | 0, hj => cases hj; rw [cell_of hb]; rfl
    | 1, hj => cases hj; rw [cell_of hb]; rfl
    | 2, hj => cases hj; rw [cell_of hb]; rfl
    | 3, hj => cases hj; rw [cell_of hb]; rfl
  | succ i => simp at hi
section
variable {w0 w : World} {K : List (Nat × Obj)} {T : Res} [Good T] {g s t : Nat} {room : Int} {vO vS vL vA : Value} {os : List Ob} {us : List (Int × List UInt8)} {l la : List (Int × Int)}
set_option maxRecDepth 100000 in
set_option maxHeartbeats 4000000 in
theorem gMake_arg (H : SepK w0 w K T) (hK : (g, gblk s t vO) ∈ K) (kind n : Int) (hn : okc n = false) :
    Calls Try.prog 60 #[.pointer (some ⟨g, 0, none⟩), .int .i64 kind, .int .i64 n] w fun e w' => e = .returned (.tuple #[.agg #[.int .i64 0, .int .u64 0], .int .i64 2]) ∧ SepK w0 w' K T := by
  have H1 := H.alloc (.cells #[.int .i64 0, .int .u64 0] 30)
  have fr := H1.blk (List.mem_cons_of_mem _ hK)
  have c0 := cell_of fr 0
  have lt := lt_of_heap fr
  simp only [List.getElem?_toArray, List.getElem?_cons_zero, List.getElem?_cons_succ] at c0
  clear fr
  go_enter Try.func60, Try.ntmps60
  go_wp2_with fail
  refine (uTake_arg n hn _).mono ?_
  rintro e w1 ⟨rfl, rfl⟩
  go_wp2_with fail
  refine bodyPost_ret (v := .tuple #[.agg #[.int .i64 0, .int .u64 0], .int .i64 2]) (by simp [results, Try.results60, go_sem]) rfl ⟨rfl, H1.drop K (fun p hp => List.mem_cons_of_mem _ hp)⟩
set_option maxRecDepth 100000 in
set_option maxHeartbeats 4000000 in
theorem gMake_full (H : SepK w0 w K (star (rowR 101 2 vS (us.map encT)) T)) (hK : (g, gblk s t vO) ∈ K) (hKs : (s, tblk room vS) ∈ K) (kind n : Int) (hn : okc n = true) (hr : room < usedOf us + cls n) (hl : us.length ≤ 10000) (hb : ∀ p ∈ us, p.2.length ≤ 1000) :
    Calls Try.prog 60 #[.pointer (some ⟨g, 0, none⟩), .int .i64 kind, .int .i64 n] w fun e w' => e = .returned (.tuple #[.agg #[.int .i64 0, .int .u64 0], .int .i64 6]) ∧ SepK w0 w' K (star (rowR 101 2 vS (us.map encT)) T) := by
  have H1 := H.alloc (.cells #[.int .i64 0, .int .u64 0] 30)
  have fr := H1.blk (List.mem_cons_of_mem _ hK)
  have c0 := cell_of fr 0
  have lt := lt_of_heap fr
  simp only [List.getElem?_toArray, List.getElem?_cons_zero, List.getElem?_cons_succ] at c0
  clear fr
  have hKb0 : ∀ p ∈ K, p.1 ≠ w.heap.size := fun p hp => Nat.ne_of_lt (lt_of_heap (H.blk (b := p.1) (o := p.2) hp))
  generalize hb0 : w.heap.size = b0 at H1 hKb0
  go_enter Try.func60, Try.ntmps60
  go_wp2_with fail
  clear hb0
  refine (uTake_full H1 (List.mem_cons_of_mem _ hKs) n hn hr hl hb).mono ?_
  rintro e w1 ⟨rfl, H2⟩
  have fb := H2.blk List.mem_cons_self
  have ff0 := frozen_of fb 0
  have ff1 := frozen_of fb 1
  have lb := lt_of_heap fb
  have d0 := cell_of fb 0
  have d1 := cell_of fb 1
  simp only [List.getElem?_toArray, List.getElem?_cons_zero, List.getElem?_cons_succ] at d0 d1
  have H3 := H2.set (o' := .cells #[.int .i64 0, .int .u64 0] 30 (0, 0)) (((Upd.refl [b0] _).setCell ⟨b0, 0, none⟩ (.int .i64 0) (.inl (by simp))).setCell ⟨b0, 1, none⟩ (.int .u64 0) (.inl (by simp))) (by simpa using heap_setCell_same (heap_setCell_same fb 0 (.int .i64 0)) 1 (.int .u64 0)) hKb0
  have f3 := H3.blk List.mem_cons_self
  have g0 := cell_of f3 0
  have g1 := cell_of f3 1
  simp only [List.getElem?_toArray, List.getElem?_cons_zero, List.getElem?_cons_succ] at g0 g1
  go_wp2_with fail
  refine bodyPost_ret (v := .tuple #[.agg #[.int .i64 0, .int .u64 0], .int .i64 6]) (by simp [results, Try.results60, go_sem, g0, g1]) rfl ⟨rfl, H3.drop K (fun p hp => List.mem_cons_of_mem _ hp)⟩
set_option maxRecDepth 100000 in
set_option maxHeartbeats 8000000 in
theorem gMake_ok (H : SepK w0 w ((g, gblk s t vO) :: (s, tblk room vS) :: (t, rblk vL vA) :: K) (star (rowR 106 4 vO (os.map encO)) (star (rowR 101 2 vS (us.map encT)) (star (rowR 30 2 vL (l.map encH)) (star (rowR 30 2 vA (la.map encH)) T))))) (hd : g ≠ s ∧ g ≠ t ∧ s ≠ t) (hKd : ∀ p ∈ K, p.1 ≠ g ∧ p.1 ≠ s ∧ p.1 ≠ t)
    (kind n : Int) (hn : okc n = true) (hfit : usedOf us + cls n ≤ room) (ho : os.length ≤ 10000) (hu : us.length ≤ 10000) (hl : l.length ≤ 10000) (hla : la.length ≤ 10000) (hb : ∀ p ∈ us, p.2.length ≤ 1000) (hno : ∀ k : Nat, InsT us k → atI l (k : Int) = -1) :
    Calls Try.prog 60 #[.pointer (some ⟨g, 0, none⟩), .int .i64 kind, .int .i64 n] w fun e w' => ∃ (vO' vS' vL' vA' : Value) (k m : Nat), InsT us k ∧ InsAt l (k : Int) m ∧ e = .returned (.tuple #[.agg #[.int .i64 (k : Int), .int .u64 (genOf la k)], .int .i64 0]) ∧
      SepK w0 w' ((g, gblk s t vO') :: (s, tblk room vS') :: (t, rblk vL' vA') :: K) (star (rowR 106 4 vO' ((os ++ [(((k : Int), genOf la k), ((1 : Int), kind))]).map encO)) (star (rowR 101 2 vS' ((us.take k ++ ((k : Int), List.replicate n.toNat (0 : UInt8)) :: us.drop k).map encT)) (star (rowR 30 2 vL' ((l.take m ++ ((k : Int), genOf la k) :: l.drop m).map encH)) (star (rowR 30 2 vA' ((aput la k (genOf la k)).map encH)) T)))) := by
  have H1 := H.alloc (.cells #[.int .i64 0, .int .u64 0] 30)
  have fr := H1.blk (List.mem_cons_of_mem _ List.mem_cons_self)
  have c0 := cell_of fr 0
  have lt := lt_of_heap fr
  simp only [List.getElem?_toArray, List.getElem?_cons_zero, List.getElem?_cons_succ] at c0
  clear fr
  have hb0K : ∀ p ∈ (g, gblk s t vO) :: (s, tblk room vS) :: (t, rblk vL vA) :: K, p.1 ≠ w.heap.size := fun p hp => Nat.ne_of_lt (lt_of_heap (H.blk (b := p.1) (o := p.2) hp))
  generalize hb0 : w.heap.size = b0 at H1 hb0K
  have hgb : g ≠ b0 := hb0K (g, gblk s t vO) (by simp)
  have hsb : s ≠ b0 := hb0K (s, tblk room vS) (by simp)
  have htb : t ≠ b0 := hb0K (t, rblk vL vA) (by simp)
  have hKb : ∀ p ∈ K, p.1 ≠ b0 := fun p hp => hb0K p (by simp [hp])
  clear hb0K H
  have H1' := H1.swap.drop ((s, tblk room vS) :: (b0, .cells #[.int .i64 0, .int .u64 0] 30) :: (g, gblk s t vO) :: (t, rblk vL vA) :: K) (by intro p hp; simp at hp ⊢; rcases hp with h | h | h | h | h <;> simp [h])
  go_enter Try.func60, Try.ntmps60
  go_wp2_with fail
  clear hb0
  refine (uTake_ok H1' (by intro p hp; simp at hp; rcases hp with rfl | rfl | rfl | hp; exact Ne.symm hsb; exact hd.1; exact Ne.symm hd.2.2; exact (hKd p hp).2.1) n hn hfit hu hb).mono ?_
  rintro e w1 ⟨vS', k, hins, rfl, H2⟩
  clear H1 H1' c0 lt
  have hno := hno k hins
  have H2' := H2.pull3.pull3.drop ((t, rblk vL vA) :: (s, tblk room vS') :: (b0, .cells #[.int .i64 0, .int .u64 0] 30) :: (g, gblk s t vO) :: K) (by intro p hp; simp at hp ⊢; rcases hp with h | h | h | h | h <;> simp [h])
  clear H2
  have fr := H2'.blk (b := g) (o := gblk s t vO) (by simp)
  have c1 := cell_of fr 1
  have lt := lt_of_heap fr
  simp only [List.getElem?_toArray, List.getElem?_cons_zero, List.getElem?_cons_succ] at c1
  clear fr
  go_wp2_with fail
  refine (rMake H2' (by intro p hp; simp at hp; rcases hp with rfl | rfl | rfl | hp; exact hd.2.2; exact Ne.symm htb; exact hd.2.1; exact (hKd p hp).2.2) (k : Int) (by omega) hno hl hla).mono ?_
  rintro e w2 ⟨vL', vA', m, hinm, rfl, H3⟩
  clear H2' c1 lt hno
  generalize hgg : genOf la (k : Int) = gg at H3 ⊢
  have hgH : Unit → genOf la (k : Int) = gg := fun _ => hgg
  clear hgg
  have hg9 := Nat.ne_of_lt (lt_of_heap (H3.blk (b := g) (o := gblk s t vO) (by simp)))
  have h09 := Nat.ne_of_lt (lt_of_heap (H3.blk (b := b0) (o := .cells #[.int .i64 0, .int .u64 0] 30 (0, 0)) (by simp)))
  have H4 := (H3.pull3.drop ((g, gblk s t vO) :: (s, tblk room vS') :: (t, rblk vL' vA') :: (b0, .cells #[.int .i64 0, .int .u64 0] 30) :: K) (by intro p hp; simp at hp ⊢; rcases hp with h | h | h | h | h <;> simp [h])).alloc (.cells #[.int .i64 (k : Int), .int .u64 gg] 30)
  clear H3
  go_wp2_with fail
  generalize w2.heap.size = b9 at H4 hg9 h09 ⊢
  generalize w2.alloc (.cells #[.int .i64 (k : Int), .int .u64 gg] 30) = w3 at H4 ⊢
  obtain ⟨A, cO, rfl, hrO, -⟩ := H4.parts
  rw [List.length_map] at H4
  have fr := H4.blk (b := g) (o := gblk s t (.slice A os.length cO)) (by simp)
  have c2 := cell_of fr 2
  have lg := lt_of_heap fr
  have f9 := H4.blk List.mem_cons_self
  have d0 := cell_of f9 0
  have d1 := cell_of f9 1
  have l9 := lt_of_heap f9
  simp only [List.getElem?_toArray, List.getElem?_cons_zero, List.getElem?_cons_succ] at c2 d0 d1
  clear fr f9 hrO
  have H5 := (H4.upd (Upd.refl [] _).drew).alloc (.cells #[.int .i64 (k : Int), .int .u64 gg, .int .i64 kind, .int .i64 1] 106)
  obtain ⟨i0, hi0, hz0, hz1, hz2⟩ := info_parts info106
  obtain ⟨v1, w4, hrun1, H6⟩ := run_append_part (P := Try.prog) 107 107 106 i0 _ 4 32 Try.underlying107 hi0 hz0 hz1 hz2 rfl (by decide) _ _ H5 _ _ (part_one4 _ _ _ _ _) (by simp) (by intro r hr; simp at hr; subst hr; intro u hu; simp at hu; rcases hu with rfl | rfl | rfl | rfl <;> rfl) (by unfold maxLen; simp; omega) (by simp; omega)
  clear H5 hi0 hz0 hz1 hz2
  obtain ⟨A2, c2', rfl, -⟩ := H6.parts
  have hlen : (os.map encO ++ [[Value.int .i64 (k : Int), .int .u64 gg, .int .i64 kind, .int .i64 1]]).length = os.length + 1 := by simp
  rw [hlen] at H6 hrun1
  have f6 := H6.blk (b := g) (o := gblk s t (.slice A os.length cO)) (by simp)
  have ff6 := frozen_of f6 2
  have l6 := lt_of_heap f6
  have c6 := cell_of f6 2
  simp only [List.getElem?_toArray, List.getElem?_cons_zero, List.getElem?_cons_succ] at c6
  go_cut [] from 38 to 49 (fun wx => wx = w4.setCell ⟨g, 2, none⟩ (.slice A2 (os.length + 1) c2'))
  case first =>
    go_region_law (first | (refine step_append_run rfl (.tmp 42) (.tmp 46) 107 rfl _ _ rfl rfl _ _ hrun1 ?_))
    all_goals (first | (go_meet; exact rfl) | (go_wp2_with fail; go_meet; exact rfl))
  case rest =>
  subst hcut
  have H7 := H6.drop ((g, gblk s t (.slice A os.length cO)) :: (s, tblk room vS') :: (t, rblk vL' vA') :: (b9, .cells #[.int .i64 (k : Int), .int .u64 gg] 30) :: (b0, .cells #[.int .i64 0, .int .u64 0] 30) :: K) (by intro p hp; simp at hp ⊢; rcases hp with h | h | h | h | h | h <;> simp [h])
  have H8 := H7.set (o' := gblk s t (.slice A2 (os.length + 1) c2')) ((Upd.refl [g] w4).setCell ⟨g, 2, none⟩ (.slice A2 (os.length + 1) c2') (.inl (by simp))) (by simpa [gblk] using heap_setCell_same f6 2 _) (by intro p hp; simp at hp; rcases hp with rfl | rfl | rfl | rfl | hp; exact Ne.symm hd.1; exact Ne.symm hd.2.1; exact Ne.symm hg9; exact Ne.symm hgb; exact (hKd p hp).1)
  clear H4 H6 H7 hrun1 f6 ff6 l6 c6 hlen
  generalize w4.setCell ⟨g, 2, none⟩ (.slice A2 (os.length + 1) c2') = w5 at H8 ⊢
  have H9 := H8.drop ((b0, .cells #[.int .i64 0, .int .u64 0] 30) :: (g, gblk s t (.slice A2 (os.length + 1) c2')) :: (s, tblk room vS') :: (t, rblk vL' vA') :: (b9, .cells #[.int .i64 (k : Int), .int .u64 gg] 30) :: K) (by intro p hp; simp at hp ⊢; rcases hp with h | h | h | h | h | h <;> simp [h])
  have f9 := H9.blk (b := b9) (o := .cells #[.int .i64 (k : Int), .int .u64 gg] 30 (0, 0)) (by simp)
  have d0 := cell_of f9 0
  have d1 := cell_of f9 1
  have l9 := lt_of_heap f9
  have fb := H9.blk List.mem_cons_self
  have ff0 := frozen_of fb 0
  have ff1 := frozen_of fb 1
  have lb := lt_of_heap fb
  have q0 := cell_of fb 0
  have q1 := cell_of fb 1
  simp only [List.getElem?_toArray, List.getElem?_cons_zero, List.getElem?_cons_succ] at d0 d1 q0 q1
  have H10 := H9.set (o' := .cells #[.int .i64 (k : Int), .int .u64 gg] 30 (0, 0)) (((Upd.refl [b0] _).setCell ⟨b0, 0, none⟩ (.int .i64 (k : Int)) (.inl (by simp))).setCell ⟨b0, 1, none⟩ (.int .u64 gg) (.inl (by simp))) (by simpa using heap_setCell_same (heap_setCell_same fb 0 (.int .i64 (k : Int))) 1 (.int .u64 gg)) (by intro p hp; simp at hp; rcases hp with rfl | rfl | rfl | rfl | hp; exact hgb; exact hsb; exact htb; exact Ne.symm h09; exact hKb p hp)
  have fz := H10.blk List.mem_cons_self
  have g0 := cell_of fz 0
  have g1 := cell_of fz 1
  simp only [List.getElem?_toArray, List.getElem?_cons_zero, List.getElem?_cons_succ] at g0 g1
  go_wp2_with fail
  refine bodyPost_ret (v := .tuple #[.agg #[.int .i64 (k : Int), .int .u64 gg], .int .i64 0]) (by simp [results, Try.results60, go_sem, g0, g1]) rfl ?_
  refine ⟨.slice A2 (os.length + 1) c2', vS', vL', vA', k, m, hins, hinm, by rw [hgH ()], ?_⟩
  rw [hgH ()]
  have e1 : (os ++ [(((k : Int), gg), ((1 : Int), kind))]).map encO = os.map encO ++ [[.int .i64 (k : Int), .int .u64 gg, .int .i64 kind, .int .i64 1]] := by simp [encO]
  rw [e1]
  exact (H10.drop ((g, gblk s t (.slice A2 (os.length + 1) c2')) :: (s, tblk room vS') :: (t, rblk vL' vA') :: K) (by intro p hp; simp at hp ⊢; rcases hp with h | h | h | h <;> simp [h])).imp fun _ g => star_imp g fun _ g => star_swap (star_imp g fun _ g => star_swap g)
end
end Go.Proofs.Ytgleceijdedlkaa
