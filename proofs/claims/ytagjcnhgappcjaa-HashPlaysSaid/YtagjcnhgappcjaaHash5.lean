/- A hash: what Write does to memory. -/
import Derived.Test.YtagjcnhgappcjaaHash4
namespace Go.Proofs.Ytagjcnhgappcjaa
open Go.RowKit
set_option linter.unusedVariables false
set_option linter.unusedSimpArgs false
set_option linter.unusedSectionVars false
section
variable {w0 w w' : World} {K : List (Nat × Obj)} {T U : Res} [Good T] [Good U] {h : Nat} {size n : Int} {bs bv : Nat} {l : List Ent}
theorem SepK.writeOne (H : SepK w0 w K (star (allR l) U)) (hnd : (l.map (·.1)).Nodup) {x : Int} {v : Nat × Nat × ByteArray × List UInt8} (hv : aget l x = some v) {b' : List UInt8} (u : Upd [v.2.1] w w') (hb : BytesAt 5 w' v.2.1 b') (hl : b'.length = v.2.2.2.length) :
    SepK w0 w' K (star (allR (aput l x (v.1, v.2.1, v.2.2.1, b'))) U) := by
  refine H.step fun N hR hN => ?_
  obtain ⟨h1, h2, h3, h4⟩ := hR
  have hm := aget_mem hv
  have hmN := h1 _ hm
  refine ⟨⟨fun p hp => ?_, ?_, ?_, ?_⟩, .of1 u hmN.2.2.2⟩
  · rcases mem_aput_ne hnd hp with rfl | ⟨hp, hne⟩
    · refine ⟨?_, hb, hmN.2.2⟩
      have := u.heap hmN.1 (by simpa using h4 _ hm _ hm)
      simpa [oneObj, hl] using this
    · refine ⟨u.heap (h1 p hp).1 (by simpa using h4 _ hp _ hm), (h1 p hp).2.1.kept u ?_, (h1 p hp).2.2⟩
      simp only [List.mem_singleton]
      exact fun e => hne (congrArg Prod.fst (inj_of_nodup (f := fun p : Ent => p.2.2.1) h3 hp hm e))
  · rw [aput_map_eq (v' := (v.1, v.2.1, v.2.2.1, b')) hv (fun p => p.2.1) rfl]; exact h2
  · rw [aput_map_eq (v' := (v.1, v.2.1, v.2.2.1, b')) hv (fun p => p.2.2.1) rfl]; exact h3
  · have e : ∀ p ∈ aput l x (v.1, v.2.1, v.2.2.1, b'), ∃ q ∈ l, p.2.1 = q.2.1 ∧ p.2.2.1 = q.2.2.1 := fun p hp => by
      rcases mem_aput hp with rfl | hp
      · exact ⟨_, hm, rfl, rfl⟩
      · exact ⟨p, hp, rfl, rfl⟩
    intro p hp q hq
    obtain ⟨p', hp', e1, -⟩ := e p hp
    obtain ⟨q', hq', -, e2⟩ := e q hq
    rw [e1, e2]
    exact h4 p' hp' q' hq'
theorem vsOf_aput (l : List Ent) (x : Int) (v : Nat × Nat × ByteArray × List UInt8) : vsOf (aput l x v) = aput (vsOf l) x (v.2.2.1, v.2.2.2) := by
  induction l with
  | nil => rfl
  | cons p l ih =>
    obtain ⟨a, u⟩ := p
    simp only [vsOf, List.map_cons, aput] at ih ⊢
    split
    · rfl
    · rw [List.map_cons, ih]
theorem hWrite_nil (w : World) (x o : Int) (t : ByteArray) : Calls Try.prog 13 #[.pointer none, .int .i64 x, .int .i64 o, .string t] w fun e w' => e = .returned (.int .i64 1) ∧ w = w' := by
  go_enter Try.func13, Try.ntmps13
  go_wp2_with (first
    | (go_at_call 29; (with_reducible refine (of_nil _ x).mono ?_); rintro e w1 ⟨rfl, rfl⟩)
    | (go_at_call 30; (with_reducible refine (none_nil _).mono ?_); rintro e w1 ⟨rfl, rfl⟩))
  go_ret
  exact ⟨rfl, rfl⟩
theorem hWrite_none (H : SepK w0 w K (hR bs bv l T)) (hK : (h, hblk size n bs bv) ∈ K) (x : Int) (hx : okI x) (hv : aget l x = none) (o : Int) (t : ByteArray) : Calls Try.prog 13 #[.pointer (some ⟨h, 0, none⟩), .int .i64 x, .int .i64 o, .string t] w fun e w' => e = .returned (.int .i64 5) ∧ w = w' := by
  have hb := H.blk hK
  go_enter Try.func13, Try.ntmps13
  go_wp2_with (first
    | (go_at_call 29; (with_reducible refine (of_none H hK x hx hv).mono ?_); rintro e w1 ⟨rfl, rfl⟩)
    | (go_at_call 30; (with_reducible refine (none_c hb).mono ?_); rintro e w1 ⟨rfl, rfl⟩))
  go_ret
  exact ⟨rfl, rfl⟩
set_option maxRecDepth 100000 in
set_option maxHeartbeats 1000000 in
theorem hWrite (H : SepK w0 w K (hR bs bv l T)) (hK : (h, hblk size n bs bv) ∈ K) (hI : HInv size n (vsOf l)) (hs2 : size ≤ 128) (x : Int) (hx : okI x) {v : Nat × Nat × ByteArray × List UInt8} (hv : aget l x = some v) (o : Nat) (t : ByteArray) (hf : o + t.size ≤ v.2.2.2.length) :
    Calls Try.prog 13 #[.pointer (some ⟨h, 0, none⟩), .int .i64 x, .int .i64 (o : Int), .string t] w fun e w' => e = .returned (.int .i64 0) ∧ SepK w0 w' K (hR bs bv (aput l x (v.1, v.2.1, v.2.2.1, over v.2.2.2 o t.data.toList)) T) := by
  have hb := H.blk hK
  have c0 := cell_of hb 0
  have lt := lt_of_heap hb
  simp only [List.getElem?_toArray, List.getElem?_cons_zero, List.getElem?_cons_succ] at c0
  have hm := aget_mem hv
  have hl0 : (v.2.2.2.length : Int) = size := hI.bs (x, v.2.2.1, v.2.2.2) (List.mem_map.2 ⟨_, hm, rfl⟩)
  obtain ⟨ob, gb, k, L⟩ := v
  obtain ⟨ho, hg⟩ := H.one hv
  simp only at ho hg hl0 hf ⊢
  have d1 := cell_of ho 1
  have ltg := hg.lt
  have lto := lt_of_heap ho
  simp only [oneObj, List.getElem?_toArray, List.getElem?_cons_zero, List.getElem?_cons_succ] at d1
  have htl : t.data.toList.length = t.size := rfl
  have e67 : ∀ w : World, (binOp .eql 67 (.pointer (some ⟨ob, 0, none⟩)) (.pointer none)).run Try.prog w = .ok (.bool false) w := fun w => by kernel_rfl
  have z1 : decide ((o : Int) < 0) = false := decide_eq_false (by omega)
  have z2 : decide (size < (o : Int)) = false := decide_eq_false (by omega)
  have z3 : decide (size - (o : Int) < (t.size : Int)) = false := decide_eq_false (by omega)
  have hnd : (l.map (·.1)).Nodup := H.values.nodup ki
  have hi5 : (Try.prog.info? 5).map (·.size) = some 1 := by kernel_rfl
  have hend : ∀ w2, Upd [gb] w w2 → BytesAt 5 w2 gb (over L o t.data.toList) → SepK w0 w2 K (hR bs bv (aput l x (ob, gb, k, over L o t.data.toList)) T) := fun w2 u2 b2 => by
    have hol : (over L o t.data.toList).length = L.length := over_length L o _ (by rw [htl]; exact hf)
    have h3 := SepK.writeOne (SepK.pull2 (R := mapR Value.string (Value.int .i64) okS8 bs (swp (vsOf l))) (T := mapR (Value.int .i64) eo okI bv l) (U := allR l) (V := T) H) hnd hv u2 b2 hol
    have h4 := h3.push2
    unfold hR
    have hg2 : aget (vsOf l) x = some (k, L) := by rw [vsOf_get, hv]; rfl
    rw [vsOf_aput, swp_aput hg2]
    exact h4.imp fun _ g => star_imp g fun _ g => star_map g fun _ g => ⟨g.1.same_ev hv rfl, g.2⟩
  by_cases he : o = L.length
  · have h0 : t.size = 0 := by omega
    obtain ⟨w2, hcv, hb2, u2, -⟩ := hg.copy (P := Try.prog) (sT := 9) Try.underlying58 hi5 3 0 0 0 t (by omega) (by omega)
    have e1 : t.data.toList = [] := List.eq_nil_of_length_eq_zero (by rw [htl, h0])
    have b3 : BytesAt 5 w2 gb (over L o t.data.toList) := by
      rw [e1] at hb2 ⊢
      simpa [over] using hb2
    have hS := hend w2 u2 b3
    clear hend hb2 b3 u2
    subst he
    go_enter Try.func13, Try.ntmps13
    go_wp2_with (first
      | (go_at_call 29; (with_reducible refine (of_some H hK x hx hv).mono ?_); rintro e w1 ⟨rfl, rfl⟩)
      | (go_at_call 30; (with_reducible refine (none_c hb).mono ?_); rintro e w1 ⟨rfl, rfl⟩))
    all_goals first
      | (go_ret; exact ⟨rfl, hS⟩)
      | omega
  · obtain ⟨w2, hcv, hb2, u2, -⟩ := hg.copy (P := Try.prog) (sT := 9) Try.underlying58 hi5 3 o (L.length - o) (L.length - o) t (by omega) (by omega)
    have hS := hend w2 u2 hb2
    clear hend hb2 u2
    go_enter Try.func13, Try.ntmps13
    go_wp2_with (first
      | (go_at_call 29; (with_reducible refine (of_some H hK x hx hv).mono ?_); rintro e w1 ⟨rfl, rfl⟩)
      | (go_at_call 30; (with_reducible refine (none_c hb).mono ?_); rintro e w1 ⟨rfl, rfl⟩))
    all_goals first
      | (go_ret; exact ⟨rfl, hS⟩)
      | omega
set_option maxRecDepth 100000 in
set_option maxHeartbeats 1000000 in
theorem hWrite_no (H : SepK w0 w K (hR bs bv l T)) (hK : (h, hblk size n bs bv) ∈ K) (hs1 : 1 ≤ size) (hs2 : size ≤ 128) (x : Int) (hx : okI x) {v : Nat × Nat × ByteArray × List UInt8} (hv : aget l x = some v) (o : Int) (t : ByteArray) (hf : o < 0 ∨ size < o ∨ size - o < t.size) :
    Calls Try.prog 13 #[.pointer (some ⟨h, 0, none⟩), .int .i64 x, .int .i64 o, .string t] w fun e w' => e = .returned (.int .i64 9) ∧ w = w' := by
  have hb := H.blk hK
  have c0 := cell_of hb 0
  have lt := lt_of_heap hb
  simp only [List.getElem?_toArray, List.getElem?_cons_zero, List.getElem?_cons_succ] at c0
  obtain ⟨ob, gb, k, L⟩ := v
  have e67 : ∀ w : World, (binOp .eql 67 (.pointer (some ⟨ob, 0, none⟩)) (.pointer none)).run Try.prog w = .ok (.bool false) w := fun w => by kernel_rfl
  by_cases c1 : o < 0
  · have z1 : decide (o < 0) = true := decide_eq_true c1
    go_enter Try.func13, Try.ntmps13
    go_wp2_with (first
      | (go_at_call 29; (with_reducible refine (of_some H hK x hx hv).mono ?_); rintro e w1 ⟨rfl, rfl⟩)
      | (go_at_call 30; (with_reducible refine (none_c hb).mono ?_); rintro e w1 ⟨rfl, rfl⟩))
    go_ret
    exact ⟨rfl, rfl⟩
  have z1 : decide (o < 0) = false := decide_eq_false c1
  by_cases c2 : size < o
  · have z2 : decide (size < o) = true := decide_eq_true c2
    go_enter Try.func13, Try.ntmps13
    go_wp2_with (first
      | (go_at_call 29; (with_reducible refine (of_some H hK x hx hv).mono ?_); rintro e w1 ⟨rfl, rfl⟩)
      | (go_at_call 30; (with_reducible refine (none_c hb).mono ?_); rintro e w1 ⟨rfl, rfl⟩))
    go_ret
    exact ⟨rfl, rfl⟩
  have z2 : decide (size < o) = false := decide_eq_false c2
  have z3 : decide (size - o < (t.size : Int)) = true := decide_eq_true (by omega)
  go_enter Try.func13, Try.ntmps13
  go_wp2_with (first
    | (go_at_call 29; (with_reducible refine (of_some H hK x hx hv).mono ?_); rintro e w1 ⟨rfl, rfl⟩)
    | (go_at_call 30; (with_reducible refine (none_c hb).mono ?_); rintro e w1 ⟨rfl, rfl⟩))
  go_ret
  exact ⟨rfl, rfl⟩
end
end Go.Proofs.Ytagjcnhgappcjaa
