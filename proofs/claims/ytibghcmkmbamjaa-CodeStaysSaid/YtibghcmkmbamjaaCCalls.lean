/- code: calls: the subprograms that one calls. -/
import Derived.Test.YtibghcmkmbamjaaCDivA
import Derived.Test.YtibghcmkmbamjaaGLib
namespace Go.Proofs.Ytibghcmkmbamjaa
open Go.RowKit Go.Shelf
set_option linter.unusedVariables false
set_option linter.unusedSimpArgs false
set_option linter.unusedSectionVars false
attribute [local go_sem] Oper.semAt_some
/-- Whom an instruction of subprogram k calls. -/
def callF (l : List Ins) (subs : List (Int × Int)) (k a : Int) : Option Int := match calleeP l a with | some t => if kindP l a = 7 ∧ ofP subs a = k then some (ofP subs t) else none | none => none
theorem callsP_eq (l : List Ins) (subs : List (Int × Int)) (k : Int) : callsP l subs k = (allP l).filterMap (callF l subs k) := rfl
def gotC (l : List Ins) (subs : List (Int × Int)) (k : Int) (pre : List (Bg l)) : List Int := (pre.map (·.1)).filterMap (callF l subs k)
theorem gotC_none {l : List Ins} {subs : List (Int × Int)} {k : Int} (pre : List (Bg l)) (x : Bg l) (h : callF l subs k x.1 = none) : gotC l subs k (pre ++ [x]) = gotC l subs k pre := by simp [gotC, h]
theorem gotC_some {l : List Ins} {subs : List (Int × Int)} {k : Int} (pre : List (Bg l)) (x : Bg l) {t : Int} (h : callF l subs k x.1 = some t) : gotC l subs k (pre ++ [x]) = gotC l subs k pre ++ [t] := by simp [gotC, h]
theorem gotC_len {l : List Ins} {subs : List (Int × Int)} {k : Int} (pre : List (Bg l)) : (gotC l subs k pre).length ≤ pre.length := by
  unfold gotC
  have := List.length_filterMap_le (callF l subs k) (pre.map (·.1))
  simpa using this
theorem OnlyNormal.go {K : Act → World → Prop} {a : Act} {w : World} (h : K a w) : OnlyNormal K .normal a w := h
section
variable {w : World} {p c bm : Nat} {A AS : Option Addr} {cS : Nat} {l : List Ins} {b : List Int} {subs : List (Int × Int)}
set_option maxRecDepth 100000 in
set_option maxHeartbeats 8000000 in
theorem calls105 (h : Prg w p A c l bm b (.slice AS subs.length cS)) (hs : RowsAt w AS 2 (subs.map encS)) (hsl : subs.length ≤ 1100) (hne : 0 < l.length) (k : Int) :
    Calls Try.prog 105 #[.pointer (some ⟨p, 0, none⟩), .int .i64 k] w fun e w' => ∃ v, e = .returned v ∧ SepK w w' [] (star (rowR 3 1 v ((callsP l subs k).map encZi)) emp) := by
  refine (callsIn_wide (n := 5)).1 ?_
  refine callsIn_of_wp_marks Try.func105 rfl trivial ?_ rfl
  simp only [Try.ntmps105, List.size_toArray, List.length_cons, List.length_nil, Nat.reduceAdd, Nat.reduceSub, Array.replicate_succ, Array.replicate_zero, List.push_toArray, List.append_toArray, List.nil_append, List.cons_append]
  gi_wp2_with (refine ⟨trivial, ?_⟩; gi_at_call 66; refine (callsIn_wide.2 (all66 _)).mono ?_; rintro e w' ⟨rfl, rfl⟩)
  obtain ⟨W1, hW1⟩ : ∃ W1, W1 = ((((w.alloc (.cells #[.pointer (some ⟨p, 0, none⟩)] 82)).alloc (.cells #[.int .i64 k] 3)).alloc (.cells #[.slice none 0 0] 56)).alloc (.cells #[.pointer (some ⟨p, 0, none⟩)] 82)) := ⟨_, rfl⟩
  have H := (((((SepK.start w).alloc (.cells #[.pointer (some ⟨p, 0, none⟩)] 82)).alloc (.cells #[.int .i64 k] 3)).alloc (.cells #[.slice none 0 0] 56)).alloc (.cells #[.pointer (some ⟨p, 0, none⟩)] 82))
  simp only [alloc_size] at H
  rw [← hW1] at H
  rw [← hW1]
  have hsz : W1.heap.size = w.heap.size + 4 := by rw [hW1]; simp
  clear hW1
  have u0 := H.u
  have h1 := H.blk (b := w.heap.size) (o := .cells #[.pointer (some ⟨p, 0, none⟩)] 82 (0, 0)) (by simp)
  have h2 := H.blk (b := w.heap.size + 1) (o := .cells #[.int .i64 k] 3 (0, 0)) (by simp)
  have h3 : Boxed W1 (w.heap.size + 1 + 1) 56 (.slice none 0 0) := H.blk (by simp)
  have h4 := H.blk (b := w.heap.size + 1 + 1 + 1) (o := .cells #[.pointer (some ⟨p, 0, none⟩)] 82 (0, 0)) (by simp)
  have hrow : W1.ownsRow (w.heap.size + 1 + 1) 3 1 (.slice none 0 0) 0 [] := World.ownsRow_nil _ _ _ _
  clear H
  have hX : ∀ b, (b < w.heap.size ∨ b = w.heap.size ∨ b = w.heap.size + 1 ∨ b = w.heap.size + 1 + 1 + 1) → b < W1.heap.size := fun b hb => by omega
  have hP : Prl (fun b => b < w.heap.size ∨ b = w.heap.size ∨ b = w.heap.size + 1 ∨ b = w.heap.size + 1 + 1 + 1) W1 (w.heap.size + 1 + 1 + 1) p A c l := by
    have lp := lt_of_heap h.blk
    refine ⟨h4, .inr (.inr (.inr rfl)), ⟨_, _, u0.heap h.blk (by simp)⟩, .inl lp, h.row.keep u0, fun b off e => ?_, h.ok, h.len⟩
    obtain ⟨x, hx⟩ : ∃ x, l[0]? = some x := ⟨l[0], List.getElem?_eq_getElem hne⟩
    obtain ⟨b', off', e', k0, -⟩ := cellN h.row hx
    rw [e] at e'
    cases e'
    exact .inl (World.block_lt_of_cell? w _ k0)
  have hll := h.len
  obtain ⟨b0, hb0⟩ : ∃ b0, w.heap.size = b0 := ⟨_, rfl⟩
  rw [hb0] at h1 h2 h3 h4 hrow hX hP hsz ⊢
  obtain ⟨i0, hi, hz0, hz1, hz2⟩ := info_parts info3
  refine wpIn_rangeFunc_ownG rfl (by omega) (gf := 99) (lb := #[.pointer (some ⟨b0 + 1 + 1 + 1, 0, none⟩)]) rfl trivial (enters_of Try.func99 (by kernel_rfl) rfl) (all_stops (X := fun b => b < b0 ∨ b = b0 ∨ b = b0 + 1 ∨ b = b0 + 1 + 1 + 1) 4 (by omega) W1 hP) (fun h k => h.trans k) (kp_b hX) (Below.refl _ _) (fun _ => rfl)
    (fun pre W => (∃ v, Boxed W (b0 + 1 + 1) 56 v ∧ W.ownsRow (b0 + 1 + 1) 3 1 v (gotC l subs k pre).length ((gotC l subs k pre).map (Value.int .i64)) ∧ True) ∧ KpW (fun b => b < b0 ∨ b = b0 ∨ b = b0 + 1 ∨ b = b0 + 1 + 1 + 1) W1 W)
    (fun _ _ _ => False)
    (OwnFrom.and (Own.from (holdsRow_own (b0 + 1 + 1) (b0 + 1 + 1) 56 3 1 (fun pre => (gotC l subs k pre).length) (fun pre => (gotC l subs k pre).map (Value.int .i64)) (fun _ _ => True)) _) (own_kpw (fun b hb => ⟨hX b hb, hX b hb⟩)))
    (fun _ _ _ _ _ hs _ _ => hs)
    ⟨⟨_, h3, hrow, trivial⟩, ⟨rfl, rfl, rfl, Nat.le_refl _⟩, Kp.refl _ _⟩
    (fun x => { tmps := #[.pointer (some ⟨p, 0, none⟩), .int .i64 k, .pointer (some ⟨b0, 0, none⟩), .pointer (some ⟨b0 + 1, 0, none⟩), .pointer (some ⟨b0 + 1 + 1, 0, none⟩), .int .i64 x.1, undef, undef, .pointer (some ⟨p, 0, none⟩), .func (.func 99) #[] #[.pointer (some ⟨b0 + 1 + 1 + 1, 0, none⟩)], .int .i64 x.1, undef, undef, undef, undef, undef, undef, undef, undef, undef, undef, undef, undef, undef, undef, undef, undef, undef, undef, undef, undef, undef, undef, undef, undef, undef, undef, undef, undef, undef, undef, undef, undef, undef], defers := [] }) ?assign ?body ?done ?stop
  case assign =>
    intro l x W K hK
    gi_wp2
    exact hK
  case body =>
    rintro y pre x W ⟨⟨v, hv, hrw, -⟩, hKW⟩ hlt
    have hQ := hP.keep hKW.2
    have UW : Upd [] w W := ⟨hKW.1.1.trans u0.os, hKW.1.2.1.trans u0.tape, hKW.1.2.2.1.trans u0.output, Nat.le_trans u0.size hKW.1.2.2.2, fun i hi _ => (hKW.2 i (.inl (by omega))).trans (u0.block i hi (by simp))⟩
    obtain ⟨vm, vS', hb⟩ := hQ.blk
    have k1 := (hKW.2 b0 (.inr (.inl rfl))).trans h1
    have k2 := (hKW.2 (b0 + 1) (.inr (.inr (.inl rfl)))).trans h2
    have c0 := cell_of k1 0
    have c1 := cell_of k2 0
    have cp := cell_of hb 0
    simp only [List.getElem?_toArray, List.getElem?_cons_zero] at c0 c1 cp
    have lb := lt_of_heap k1
    have lp := lt_of_heap hb
    have hcc := callee37 c hQ.row hQ.ok x.1 (by omega)
    have hgl := gotC_len (l := l) (subs := subs) (k := k) pre
    cases ho : calleeP l x.1 with
    | none =>
      rw [ho] at hcc
      simp only [ansC, Option.getD_none, Option.isSome_none] at hcc
      have hcf : callF l subs k x.1 = none := by unfold callF; rw [ho]
      gi_wp2_with (refine ⟨trivial, ?_⟩; gi_at_call 37; refine (CallsIn.inRound y (callsIn_wide.2 hcc)).mono ?_; rintro e W' ⟨rfl, u1⟩)
      have UX := u1
      have c0 := u1.cell c0 (by simp)
      have c1 := u1.cell c1 (by simp)
      have cp := u1.cell cp (by simp)
      refine wpIn_round_held (S := fun w' => w'.cell? ⟨b0, 0, none⟩ = some (.pointer (some ⟨p, 0, none⟩)) ∧ w'.cell? ⟨b0 + 1, 0, none⟩ = some (.int .i64 k) ∧ w'.cell? ⟨p, 0, none⟩ = some (.slice A l.length c)) (by kernel_rfl) (by kernel_rfl) (by exact ⟨c0, c1, cp⟩) (fun hHeld => ?_)
      refine wpAnyH_take (i := 0) (oi := ⟨some 20, _, _, _, _, _⟩) (v := ?vn1) rfl (by kernel_rfl) (by kernel_rfl) (by kernel_rfl) (fun _ _ _ h => h) (Or.inl ⟨by rfl, ?hyn1⟩) hHeld ?restn1
      case hyn1 => (intro wq hSw; (try dsimp only at hSw); go_simp; (try with_reducible rfl))
      try simp only [Act.put, List.setIfInBounds_toArray, List.set_cons_zero, List.set_cons_succ]
      refine wpAnyH_take (i := 1) (oi := ⟨some 21, _, _, _, _, _⟩) (v := ?vn2) rfl (by kernel_rfl) (by kernel_rfl) (by kernel_rfl) (fun _ _ _ h => h) (Or.inl ⟨by rfl, ?hyn2⟩) hHeld ?restn2
      case hyn2 => (intro wq hSw; (try dsimp only at hSw); go_simp; (try with_reducible rfl))
      try simp only [Act.put, List.setIfInBounds_toArray, List.set_cons_zero, List.set_cons_succ]
      refine wpAnyH_take (i := 2) (oi := ⟨some 22, _, _, _, _, _⟩) (v := undef) rfl (by kernel_rfl) (by kernel_rfl) (by kernel_rfl) (fun _ _ _ h => h) (Or.inr ⟨by rfl, rfl⟩) hHeld ?_
      try simp only [Act.put, List.setIfInBounds_toArray, List.set_cons_zero, List.set_cons_succ]
      refine wpAnyH_take (i := 3) (oi := ⟨some 23, _, _, _, _, _⟩) (v := undef) rfl (by kernel_rfl) (by kernel_rfl) (by kernel_rfl) (fun _ _ _ h => h) (Or.inr ⟨by rfl, rfl⟩) hHeld ?_
      try simp only [Act.put, List.setIfInBounds_toArray, List.set_cons_zero, List.set_cons_succ]
      refine wpAnyH_take (i := 4) (oi := ⟨some 24, _, _, _, _, _⟩) (v := undef) rfl (by kernel_rfl) (by kernel_rfl) (by kernel_rfl) (fun _ _ _ h => h) (Or.inr ⟨by rfl, rfl⟩) hHeld ?_
      try simp only [Act.put, List.setIfInBounds_toArray, List.set_cons_zero, List.set_cons_succ]
      refine wpAnyH_take (i := 5) (oi := ⟨some 25, _, _, _, _, _⟩) (v := undef) rfl (by kernel_rfl) (by kernel_rfl) (by kernel_rfl) (fun _ _ _ h => h) (Or.inr ⟨by rfl, rfl⟩) hHeld ?_
      try simp only [Act.put, List.setIfInBounds_toArray, List.set_cons_zero, List.set_cons_succ]
      refine wpAnyH_take (i := 6) (oi := ⟨some 26, _, _, _, _, _⟩) (v := undef) rfl (by kernel_rfl) (by kernel_rfl) (by kernel_rfl) (fun _ _ _ h => h) (Or.inr ⟨by rfl, rfl⟩) hHeld ?_
      try simp only [Act.put, List.setIfInBounds_toArray, List.set_cons_zero, List.set_cons_succ]
      refine wpAnyH_take (i := 7) (oi := ⟨some 27, _, _, _, _, _⟩) (v := undef) rfl (by kernel_rfl) (by kernel_rfl) (by kernel_rfl) (fun _ _ _ h => h) (Or.inr ⟨by rfl, rfl⟩) hHeld ?_
      try simp only [Act.put, List.setIfInBounds_toArray, List.set_cons_zero, List.set_cons_succ]
      refine wpAnyH_take (i := 8) (oi := ⟨some 28, _, _, _, _, _⟩) (v := undef) rfl (by kernel_rfl) (by kernel_rfl) (by kernel_rfl) (fun _ _ _ h => h) (Or.inr ⟨by rfl, rfl⟩) hHeld ?_
      try simp only [Act.put, List.setIfInBounds_toArray, List.set_cons_zero, List.set_cons_succ]
      refine wpAnyH_take (i := 9) (oi := ⟨some 29, _, _, _, _, _⟩) (v := ?vn3) rfl (by kernel_rfl) (by kernel_rfl) (by kernel_rfl) (fun _ _ _ h => h) (Or.inl ⟨by rfl, ?hyn3⟩) hHeld ?restn3
      case hyn3 => (intro wq hSw; (try dsimp only at hSw); go_simp; (try with_reducible rfl))
      try simp only [Act.put, List.setIfInBounds_toArray, List.set_cons_zero, List.set_cons_succ]
      refine wpAnyH_take (i := 10) (oi := ⟨some 30, _, _, _, _, _⟩) (v := ?vn4) rfl (by kernel_rfl) (by kernel_rfl) (by kernel_rfl) (fun _ _ _ h => h) (Or.inl ⟨by rfl, ?hyn4⟩) hHeld ?restn4
      case hyn4 => (intro wq hSw; (try dsimp only at hSw); go_simp; (try with_reducible rfl))
      try simp only [Act.put, List.setIfInBounds_toArray, List.set_cons_zero, List.set_cons_succ]
      refine wpAnyH_take (i := 11) (oi := ⟨some 31, _, _, _, _, _⟩) (v := undef) rfl (by kernel_rfl) (by kernel_rfl) (by kernel_rfl) (fun _ _ _ h => h) (Or.inr ⟨by rfl, rfl⟩) hHeld ?_
      try simp only [Act.put, List.setIfInBounds_toArray, List.set_cons_zero, List.set_cons_succ]
      refine wpAnyH_take (i := 12) (oi := ⟨some 32, _, _, _, _, _⟩) (v := undef) rfl (by kernel_rfl) (by kernel_rfl) (by kernel_rfl) (fun _ _ _ h => h) (Or.inr ⟨by rfl, rfl⟩) hHeld ?_
      try simp only [Act.put, List.setIfInBounds_toArray, List.set_cons_zero, List.set_cons_succ]
      refine wpAnyH_take (i := 13) (oi := ⟨some 33, _, _, _, _, _⟩) (v := undef) rfl (by kernel_rfl) (by kernel_rfl) (by kernel_rfl) (fun _ _ _ h => h) (Or.inr ⟨by rfl, rfl⟩) hHeld ?_
      try simp only [Act.put, List.setIfInBounds_toArray, List.set_cons_zero, List.set_cons_succ]
      refine wpAnyH_take (i := 14) (oi := ⟨some 34, _, _, _, _, _⟩) (v := undef) rfl (by kernel_rfl) (by kernel_rfl) (by kernel_rfl) (fun _ _ _ h => h) (Or.inr ⟨by rfl, rfl⟩) hHeld ?_
      try simp only [Act.put, List.setIfInBounds_toArray, List.set_cons_zero, List.set_cons_succ]
      refine wpAnyH_take (i := 15) (oi := ⟨some 35, _, _, _, _, _⟩) (v := undef) rfl (by kernel_rfl) (by kernel_rfl) (by kernel_rfl) (fun _ _ _ h => h) (Or.inr ⟨by rfl, rfl⟩) hHeld ?_
      try simp only [Act.put, List.setIfInBounds_toArray, List.set_cons_zero, List.set_cons_succ]
      refine wpAnyH_take (i := 16) (oi := ⟨some 36, _, _, _, _, _⟩) (v := ?vn5) rfl (by kernel_rfl) (by kernel_rfl) (by kernel_rfl) (fun _ _ _ h => h) (Or.inl ⟨by rfl, ?hyn5⟩) hHeld ?restn5
      case hyn5 => (intro wq hSw; (try dsimp only at hSw); go_simp; (try with_reducible rfl))
      try simp only [Act.put, List.setIfInBounds_toArray, List.set_cons_zero, List.set_cons_succ]
      refine wpAnyH_done (by kernel_rfl) ?_ _
      refine OnlyNormal.go ?_
      gi_wp2
      have u := u1.trans (Upd.refl [] W').drew
      have hkx := Kp.upd (X := fun b => b < b0 ∨ b = b0 ∨ b = b0 + 1 ∨ b = b0 + 1 + 1 + 1) u (fun b hb => Nat.lt_of_lt_of_le (hX b hb) hKW.1.2.2.2)
      refine ⟨(keeps_upd u).from _, hkx, ⟨v, u.heap hv (by simp), ?_, trivial⟩, hKW.step hkx (grown_of u)⟩
      rw [gotC_none pre x hcf]
      exact ownsRow_upd hrw u (by simp)
    | some t =>
      rw [ho] at hcc
      simp only [ansC, Option.getD_some, Option.isSome_some] at hcc
      gi_wp2_with (refine ⟨trivial, ?_⟩; gi_at_call 37; refine (CallsIn.inRound y (callsIn_wide.2 hcc)).mono ?_; rintro e W' ⟨rfl, u1⟩)
      have UX := u1.trans (Upd.refl [] W').drew
      have c0 := u1.cell c0 (by simp)
      have c1 := u1.cell c1 (by simp)
      have cp := u1.cell cp (by simp)
      have hkk := kind85 c (hQ.row.keep UX) hQ.ok x.1
      by_cases k7 : kindP l x.1 = 7
      · have z7 : (kindP l x.1 == 7) = true := by simp [k7]
        by_cases hk : ofP subs x.1 = k
        · have zo : (ofP subs x.1 == k) = true := by simp [hk]
          have hcf : callF l subs k x.1 = some (ofP subs t) := by unfold callF; rw [ho]; simp [k7, hk]
          clear k7 hk
          generalize kindP l x.1 = kk at hkk z7
          refine wpIn_round_held (S := fun w' => w'.cell? ⟨b0, 0, none⟩ = some (.pointer (some ⟨p, 0, none⟩)) ∧ w'.cell? ⟨b0 + 1, 0, none⟩ = some (.int .i64 k) ∧ w'.cell? ⟨p, 0, none⟩ = some (.slice A l.length c)) (by kernel_rfl) (by kernel_rfl) (by exact ⟨c0, c1, cp⟩) (fun hHeld => ?_)
          refine wpAnyH_take (i := 0) (oi := ⟨some 20, _, _, _, _, _⟩) (v := ?vo1) rfl (by kernel_rfl) (by kernel_rfl) (by kernel_rfl) (fun _ _ _ h => h) (Or.inl ⟨by rfl, ?hyo1⟩) hHeld ?resto1
          case hyo1 => (intro wq hSw; (try dsimp only at hSw); go_simp; (try with_reducible rfl))
          try simp only [Act.put, List.setIfInBounds_toArray, List.set_cons_zero, List.set_cons_succ]
          refine wpAnyH_take (i := 1) (oi := ⟨some 21, _, _, _, _, _⟩) (v := ?vo2) rfl (by kernel_rfl) (by kernel_rfl) (by kernel_rfl) (fun _ _ _ h => h) (Or.inl ⟨by rfl, ?hyo2⟩) hHeld ?resto2
          case hyo2 => (intro wq hSw; (try dsimp only at hSw); go_simp; (try with_reducible rfl))
          try simp only [Act.put, List.setIfInBounds_toArray, List.set_cons_zero, List.set_cons_succ]
          refine wpAnyH_take (i := 2) (oi := ⟨some 22, _, _, _, _, _⟩) (v := ?vo3) rfl (by kernel_rfl) (by kernel_rfl) (by kernel_rfl) (fun _ _ _ h => h) (Or.inl ⟨by rfl, ?hyo3⟩) hHeld ?resto3
          case hyo3 => (intro wq hSw; (try dsimp only at hSw); go_simp; (try with_reducible rfl))
          try simp only [Act.put, List.setIfInBounds_toArray, List.set_cons_zero, List.set_cons_succ]
          refine wpAnyH_take (i := 3) (oi := ⟨some 23, _, _, _, _, _⟩) (v := ?vo4) rfl (by kernel_rfl) (by kernel_rfl) (by kernel_rfl) (fun _ _ _ h => h) (Or.inl ⟨by rfl, ?hyo4⟩) hHeld ?resto4
          case hyo4 => (intro wq hSw; (try dsimp only at hSw); go_simp; (try with_reducible rfl))
          try simp only [Act.put, List.setIfInBounds_toArray, List.set_cons_zero, List.set_cons_succ]
          refine wpAnyH_take (i := 4) (oi := ⟨some 24, _, _, _, _, _⟩) (v := ?vo5) rfl (by kernel_rfl) (by kernel_rfl) (by kernel_rfl) (fun _ _ _ h => h) (Or.inl ⟨by rfl, ?hyo5⟩) hHeld ?resto5
          case hyo5 => (intro wq hSw; (try dsimp only at hSw); go_simp; (try with_reducible rfl))
          try simp only [Act.put, List.setIfInBounds_toArray, List.set_cons_zero, List.set_cons_succ]
          refine wpAnyH_take (i := 5) (oi := ⟨some 25, _, _, _, _, _⟩) (v := ?vo6) rfl (by kernel_rfl) (by kernel_rfl) (by kernel_rfl) (fun _ _ _ h => h) (Or.inl ⟨by rfl, ?hyo6⟩) hHeld ?resto6
          case hyo6 => (intro wq hSw; (try dsimp only at hSw); go_simp; (try with_reducible rfl))
          try simp only [Act.put, List.setIfInBounds_toArray, List.set_cons_zero, List.set_cons_succ]
          refine wpAnyH_take (i := 6) (oi := ⟨some 26, _, _, _, _, _⟩) (v := ?vo7) rfl (by kernel_rfl) (by kernel_rfl) (by kernel_rfl) (fun _ _ _ h => h) (Or.inl ⟨by rfl, ?hyo7⟩) hHeld ?resto7
          case hyo7 => (intro wq hSw; (try dsimp only at hSw); go_simp; (try with_reducible rfl))
          try simp only [Act.put, List.setIfInBounds_toArray, List.set_cons_zero, List.set_cons_succ]
          refine wpAnyH_ready (rs := [7]) (by kernel_rfl) (by simp) ?_
          refine AllReadyH.cons (o := ⟨some 27, _, _, _, _, _⟩) rfl (fun K hK => ?_) AllReadyH.nil
          go_simp
          refine hkk.mono ?_; rintro e wa ⟨rfl, ua⟩; have c0 := ua.cell c0 (by simp); have c1 := ua.cell c1 (by simp); have cp := ua.cell cp (by simp); have UX := UX.trans ua; have hof := of103 (h.keep (UW.trans UX)) (hs.keep (UW.trans UX)) (by omega) x.1
          refine hK.out _ _ (by exact ⟨c0, c1, cp⟩) (fun hHeld => ?_)
          clear hK K
          try simp only [Act.put, List.setIfInBounds_toArray, List.set_cons_zero, List.set_cons_succ]
          refine wpAnyH_take (i := 8) (oi := ⟨some 28, _, _, _, _, _⟩) (v := ?vo8) rfl (by kernel_rfl) (by kernel_rfl) (by kernel_rfl) (fun _ _ _ h => h) (Or.inl ⟨by rfl, ?hyo8⟩) hHeld ?resto8
          case hyo8 => (intro wq hSw; (try dsimp only at hSw); go_simp; (try with_reducible rfl))
          try simp only [Act.put, List.setIfInBounds_toArray, List.set_cons_zero, List.set_cons_succ]
          refine wpAnyH_take (i := 9) (oi := ⟨some 29, _, _, _, _, _⟩) (v := ?vo9) rfl (by kernel_rfl) (by kernel_rfl) (by kernel_rfl) (fun _ _ _ h => h) (Or.inl ⟨by rfl, ?hyo9⟩) hHeld ?resto9
          case hyo9 => (intro wq hSw; (try dsimp only at hSw); go_simp; (try with_reducible rfl))
          try simp only [Act.put, List.setIfInBounds_toArray, List.set_cons_zero, List.set_cons_succ]
          refine wpAnyH_take (i := 10) (oi := ⟨some 30, _, _, _, _, _⟩) (v := ?vo10) rfl (by kernel_rfl) (by kernel_rfl) (by kernel_rfl) (fun _ _ _ h => h) (Or.inl ⟨by rfl, ?hyo10⟩) hHeld ?resto10
          case hyo10 => (intro wq hSw; (try dsimp only at hSw); go_simp; (try with_reducible rfl))
          try simp only [Act.put, List.setIfInBounds_toArray, List.set_cons_zero, List.set_cons_succ]
          refine wpAnyH_take (i := 11) (oi := ⟨some 31, _, _, _, _, _⟩) (v := ?vo11) rfl (by kernel_rfl) (by kernel_rfl) (by kernel_rfl) (fun _ _ _ h => h) (Or.inl ⟨by rfl, ?hyo11⟩) hHeld ?resto11
          case hyo11 => (intro wq hSw; (try dsimp only at hSw); go_simp; (try with_reducible rfl))
          try simp only [Act.put, List.setIfInBounds_toArray, List.set_cons_zero, List.set_cons_succ]
          refine wpAnyH_take (i := 12) (oi := ⟨some 32, _, _, _, _, _⟩) (v := ?vo12) rfl (by kernel_rfl) (by kernel_rfl) (by kernel_rfl) (fun _ _ _ h => h) (Or.inl ⟨by rfl, ?hyo12⟩) hHeld ?resto12
          case hyo12 => (intro wq hSw; (try dsimp only at hSw); go_simp; (try with_reducible rfl))
          try simp only [Act.put, List.setIfInBounds_toArray, List.set_cons_zero, List.set_cons_succ]
          refine wpAnyH_take (i := 14) (oi := ⟨some 34, _, _, _, _, _⟩) (v := ?vo13) rfl (by kernel_rfl) (by kernel_rfl) (by kernel_rfl) (fun _ _ _ h => h) (Or.inl ⟨by rfl, ?hyo13⟩) hHeld ?resto13
          case hyo13 => (intro wq hSw; (try dsimp only at hSw); go_simp; (try with_reducible rfl))
          try simp only [Act.put, List.setIfInBounds_toArray, List.set_cons_zero, List.set_cons_succ]
          refine wpAnyH_ready (rs := [13]) (by kernel_rfl) (by simp) ?_
          refine AllReadyH.cons (o := ⟨some 33, _, _, _, _, _⟩) rfl (fun K hK => ?_) AllReadyH.nil
          go_simp
          refine hof.mono ?_; rintro e wb ⟨rfl, ub⟩; have c0 := ub.cell c0 (by simp); have c1 := ub.cell c1 (by simp); have cp := ub.cell cp (by simp); have UX := UX.trans ub
          refine hK.out _ _ (by exact ⟨c0, c1, cp⟩) (fun hHeld => ?_)
          clear hK K
          try simp only [Act.put, List.setIfInBounds_toArray, List.set_cons_zero, List.set_cons_succ]
          refine wpAnyH_take (i := 15) (oi := ⟨some 35, _, _, _, _, _⟩) (v := ?vo14) rfl (by kernel_rfl) (by kernel_rfl) (by kernel_rfl) (fun _ _ _ h => h) (Or.inl ⟨by rfl, ?hyo14⟩) hHeld ?resto14
          case hyo14 => (intro wq hSw; (try dsimp only at hSw); go_simp; (try with_reducible rfl))
          try simp only [Act.put, List.setIfInBounds_toArray, List.set_cons_zero, List.set_cons_succ]
          refine wpAnyH_take (i := 16) (oi := ⟨some 36, _, _, _, _, _⟩) (v := ?vo15) rfl (by kernel_rfl) (by kernel_rfl) (by kernel_rfl) (fun _ _ _ h => h) (Or.inl ⟨by rfl, ?hyo15⟩) hHeld ?resto15
          case hyo15 => (intro wq hSw; (try dsimp only at hSw); go_simp; (try with_reducible rfl))
          try simp only [Act.put, List.setIfInBounds_toArray, List.set_cons_zero, List.set_cons_succ]
          refine wpAnyH_done (by kernel_rfl) ?_ _
          refine OnlyNormal.go ?_
          gi_wp2
          have hvb : Boxed _ (b0 + 1 + 1) 56 v := UX.heap hv (by simp)
          have hrb := ownsRow_upd hrw UX (by simp)
          have c2 := hvb.cell
          have lb2 := hvb.lt
          have hof2 := of103 (h.keep ((UW.trans UX).trans (Upd.refl [] _).drew)) (hs.keep ((UW.trans UX).trans (Upd.refl [] _).drew)) (by omega) t
          refine wpIn_round_any (by kernel_rfl) (by kernel_rfl) ?_
          refine wpAny_take (i := 2) (oi := ⟨some 39, _, _, _, _, _⟩) (v := ?v5a) rfl (by kernel_rfl) (by kernel_rfl) (by kernel_rfl) (fun _ _ _ h => h) (Or.inl ⟨by rfl, ?hy5a⟩) ?rest5a
          case hy5a => (intro wq; go_simp; (try with_reducible rfl))
          try simp only [Act.put, List.setIfInBounds_toArray, List.set_cons_zero, List.set_cons_succ]
          refine wpAny_ready (rs := [0, 1]) (by kernel_rfl) (by simp) ?_
          refine AllReady.cons (o := ⟨some 37, _, _, _, _, _⟩) rfl (fun K hK => ?_) ?_
          · go_simp
            refine hK _ _ ?_
            clear hK K
            try simp only [Act.put, List.setIfInBounds_toArray, List.set_cons_zero, List.set_cons_succ]
            refine wpAny_ready (rs := [1]) (by kernel_rfl) (by simp) ?_
            refine AllReady.cons (o := ⟨some 38, _, _, _, _, _⟩) rfl (fun K hK => ?_) AllReady.nil
            go_simp
            refine hK _ _ ?_
            clear hK K
            try simp only [Act.put, List.setIfInBounds_toArray, List.set_cons_zero, List.set_cons_succ]
            refine wpAny_ready (rs := [3]) (by kernel_rfl) (by simp) ?_
            refine AllReady.cons (o := ⟨some 40, _, _, _, _, _⟩) rfl (fun K hK => ?_) AllReady.nil
            go_simp
            refine hof2.mono ?_
            rintro e wb2 ⟨rfl, ub2⟩
            have ub2 := (Upd.refl [] wb).drew.trans ub2
            have c2 := ub2.cell c2 (by simp); have c0 := ub2.cell c0 (by simp)
            have hvb : Boxed _ (b0 + 1 + 1) 56 v := ub2.heap hvb (by simp)
            have hrb := ownsRow_upd hrb ub2 (by simp)
            have UX := UX.trans ub2
            refine hK _ _ ?_
            clear hK K
            try simp only [Act.put, List.setIfInBounds_toArray, List.set_cons_zero, List.set_cons_succ]
            refine wpAny_ready (rs := [4]) (by kernel_rfl) (by simp) ?_
            refine AllReady.cons (o := ⟨some 41, _, _, _, _, _⟩) rfl (fun K hK => ?_) AllReady.nil
            go_simp
            have uA := (Upd.refl [] wb2).alloc (.cells #[.int .i64 (ofP subs t)] 3)
            have c2 := uA.cell c2 (by simp); have c0 := uA.cell c0 (by simp)
            refine hK _ _ ?_
            clear hK K
            try simp only [Act.put, List.setIfInBounds_toArray, List.set_cons_zero, List.set_cons_succ]
            refine wpAny_ready (rs := [5]) (by kernel_rfl) (by simp) ?_
            refine AllReady.cons (o := ⟨some 42, _, _, _, _, _⟩) rfl (fun K hK => ?_) AllReady.nil
            obtain ⟨v9, w9, hrun9, hown, hgrow, -, -⟩ := run_append_own_at (P := Try.prog) (wb2.alloc (.cells #[.int .i64 (ofP subs t)] 3)) (b0 + 1 + 1) 56 56 3 i0 (.int .i64 0) 1 8 Try.underlying56 hi hz0 hz1 hz2 rfl (by decide) v _ _ (hrb.alloc _) ⟨wb2.heap.size, 0, none⟩ 1 1 [.int .i64 (ofP subs t)] rfl (cell_one_new _ _ _) (by simp [Value.oneCell']) (by unfold maxLen; omega) (by omega) (by simp; have := hvb.lt; omega)
            refine step_append_run rfl (.tmp 37) (.tmp 41) 56 rfl _ _ rfl rfl _ _ hrun9 ?_
            obtain ⟨g9, cap9, rfl⟩ := ownsRow_succ hown
            obtain ⟨hv1, hv2, hr2, hk2, hb2⟩ := hvb.appended (by decide) hrb (by have := hvb.lt; omega) (by omega) hown hgrow
            have hc1 := hv1.cell
            have hl1 := hv1.lt
            have hf1 := hv1.frozen
            refine hK _ _ ?_
            clear hK K
            try simp only [Act.put, List.setIfInBounds_toArray, List.set_cons_zero, List.set_cons_succ]
            refine wpAny_ready (rs := [6]) (by kernel_rfl) (by simp) ?_
            refine AllReady.cons (o := ⟨none, _, _, _, _, _⟩) rfl (fun K hK => ?_) AllReady.nil
            go_simp
            refine hK _ _ ?_
            clear hK K
            try simp only [Act.put, List.setIfInBounds_toArray, List.set_cons_zero, List.set_cons_succ]
            refine wpAny_done (by kernel_rfl) ?_ _
            refine OnlyNormal.go ?_
            simp only [Exit.inBlock]
            have k1' := UX.heap k1 (by simp)
            have k2' := UX.heap k2 (by simp)
            have k4' := UX.heap ((hKW.2 (b0 + 1 + 1 + 1) (.inr (.inr (.inr rfl)))).trans h4) (by simp)
            have hXW : ∀ b, (b < b0 ∨ b = b0 ∨ b = b0 + 1 ∨ b = b0 + 1 + 1 + 1) → b < wb2.heap.size := fun b hb => Nat.lt_of_lt_of_le (Nat.lt_of_lt_of_le (hX b hb) hKW.1.2.2.2) UX.size
            have hne' : ∀ b, (b < b0 ∨ b = b0 ∨ b = b0 + 1 ∨ b = b0 + 1 + 1 + 1) → some b ≠ v.ownBlock := fun b hb => by
              rcases hrb.2 with ⟨rfl, _⟩ | ⟨g, cap, cur, rfl, hbg, hg, _⟩
              · simp [Value.ownBlock]
              · intro e
                obtain rfl : b = g := by simpa [Value.ownBlock] using e
                rcases hb with hb | rfl | rfl | rfl
                · omega
                · omega
                · omega
                · rw [k4'] at hg
                  simp at hg
            have hkx := (Kp.upd (X := fun b => b < b0 ∨ b = b0 ∨ b = b0 + 1 ∨ b = b0 + 1 + 1 + 1) UX (fun b hb => Nat.lt_of_lt_of_le (hX b hb) hKW.1.2.2.2)).trans (kp_append (B := b0 + 1 + 1) (v' := .slice (some ⟨g9, 0, none⟩) ((gotC l subs k pre).length + 1) cap9) hXW hne' (fun b hb => by rcases hb with hb | hb | hb | hb <;> omega) hgrow)
            refine ⟨((keeps_upd UX).trans hk2).from _, hkx, ⟨_, hv2, ?_, trivial⟩, ⟨((grownBy_setCell' w9 _ _).os.trans (hgrow.os.trans ((World.grownBy_alloc wb2 _ none).os.trans UX.os))).trans hKW.1.1, ((grownBy_setCell' w9 _ _).tape.trans (hgrow.tape.trans ((World.grownBy_alloc wb2 _ none).tape.trans UX.tape))).trans hKW.1.2.1, ((grownBy_setCell' w9 _ _).output.trans (hgrow.output.trans ((World.grownBy_alloc wb2 _ none).output.trans UX.output))).trans hKW.1.2.2.1, Nat.le_trans hKW.1.2.2.2 (Nat.le_trans UX.size (Nat.le_trans (World.grownBy_alloc wb2 _ none).size (Nat.le_trans hgrow.size (grownBy_setCell' w9 _ _).size)))⟩, hKW.2.trans hkx⟩
            rw [gotC_some pre x hcf]
            simpa using hr2
          refine AllReady.cons (o := ⟨some 38, _, _, _, _, _⟩) rfl (fun K hK => ?_) AllReady.nil
          go_simp
          refine hK _ _ ?_
          clear hK K
          try simp only [Act.put, List.setIfInBounds_toArray, List.set_cons_zero, List.set_cons_succ]
          refine wpAny_ready (rs := [0, 3]) (by kernel_rfl) (by simp) ?_
          refine AllReady.cons (o := ⟨some 37, _, _, _, _, _⟩) rfl (fun K hK => ?_) ?_
          · go_simp
            refine hK _ _ ?_
            clear hK K
            try simp only [Act.put, List.setIfInBounds_toArray, List.set_cons_zero, List.set_cons_succ]
            refine wpAny_ready (rs := [3]) (by kernel_rfl) (by simp) ?_
            refine AllReady.cons (o := ⟨some 40, _, _, _, _, _⟩) rfl (fun K hK => ?_) AllReady.nil
            go_simp
            refine hof2.mono ?_
            rintro e wb2 ⟨rfl, ub2⟩
            have ub2 := (Upd.refl [] wb).drew.trans ub2
            have c2 := ub2.cell c2 (by simp); have c0 := ub2.cell c0 (by simp)
            have hvb : Boxed _ (b0 + 1 + 1) 56 v := ub2.heap hvb (by simp)
            have hrb := ownsRow_upd hrb ub2 (by simp)
            have UX := UX.trans ub2
            refine hK _ _ ?_
            clear hK K
            try simp only [Act.put, List.setIfInBounds_toArray, List.set_cons_zero, List.set_cons_succ]
            refine wpAny_ready (rs := [4]) (by kernel_rfl) (by simp) ?_
            refine AllReady.cons (o := ⟨some 41, _, _, _, _, _⟩) rfl (fun K hK => ?_) AllReady.nil
            go_simp
            have uA := (Upd.refl [] wb2).alloc (.cells #[.int .i64 (ofP subs t)] 3)
            have c2 := uA.cell c2 (by simp); have c0 := uA.cell c0 (by simp)
            refine hK _ _ ?_
            clear hK K
            try simp only [Act.put, List.setIfInBounds_toArray, List.set_cons_zero, List.set_cons_succ]
            refine wpAny_ready (rs := [5]) (by kernel_rfl) (by simp) ?_
            refine AllReady.cons (o := ⟨some 42, _, _, _, _, _⟩) rfl (fun K hK => ?_) AllReady.nil
            obtain ⟨v9, w9, hrun9, hown, hgrow, -, -⟩ := run_append_own_at (P := Try.prog) (wb2.alloc (.cells #[.int .i64 (ofP subs t)] 3)) (b0 + 1 + 1) 56 56 3 i0 (.int .i64 0) 1 8 Try.underlying56 hi hz0 hz1 hz2 rfl (by decide) v _ _ (hrb.alloc _) ⟨wb2.heap.size, 0, none⟩ 1 1 [.int .i64 (ofP subs t)] rfl (cell_one_new _ _ _) (by simp [Value.oneCell']) (by unfold maxLen; omega) (by omega) (by simp; have := hvb.lt; omega)
            refine step_append_run rfl (.tmp 37) (.tmp 41) 56 rfl _ _ rfl rfl _ _ hrun9 ?_
            obtain ⟨g9, cap9, rfl⟩ := ownsRow_succ hown
            obtain ⟨hv1, hv2, hr2, hk2, hb2⟩ := hvb.appended (by decide) hrb (by have := hvb.lt; omega) (by omega) hown hgrow
            have hc1 := hv1.cell
            have hl1 := hv1.lt
            have hf1 := hv1.frozen
            refine hK _ _ ?_
            clear hK K
            try simp only [Act.put, List.setIfInBounds_toArray, List.set_cons_zero, List.set_cons_succ]
            refine wpAny_ready (rs := [6]) (by kernel_rfl) (by simp) ?_
            refine AllReady.cons (o := ⟨none, _, _, _, _, _⟩) rfl (fun K hK => ?_) AllReady.nil
            go_simp
            refine hK _ _ ?_
            clear hK K
            try simp only [Act.put, List.setIfInBounds_toArray, List.set_cons_zero, List.set_cons_succ]
            refine wpAny_done (by kernel_rfl) ?_ _
            refine OnlyNormal.go ?_
            simp only [Exit.inBlock]
            have k1' := UX.heap k1 (by simp)
            have k2' := UX.heap k2 (by simp)
            have k4' := UX.heap ((hKW.2 (b0 + 1 + 1 + 1) (.inr (.inr (.inr rfl)))).trans h4) (by simp)
            have hXW : ∀ b, (b < b0 ∨ b = b0 ∨ b = b0 + 1 ∨ b = b0 + 1 + 1 + 1) → b < wb2.heap.size := fun b hb => Nat.lt_of_lt_of_le (Nat.lt_of_lt_of_le (hX b hb) hKW.1.2.2.2) UX.size
            have hne' : ∀ b, (b < b0 ∨ b = b0 ∨ b = b0 + 1 ∨ b = b0 + 1 + 1 + 1) → some b ≠ v.ownBlock := fun b hb => by
              rcases hrb.2 with ⟨rfl, _⟩ | ⟨g, cap, cur, rfl, hbg, hg, _⟩
              · simp [Value.ownBlock]
              · intro e
                obtain rfl : b = g := by simpa [Value.ownBlock] using e
                rcases hb with hb | rfl | rfl | rfl
                · omega
                · omega
                · omega
                · rw [k4'] at hg
                  simp at hg
            have hkx := (Kp.upd (X := fun b => b < b0 ∨ b = b0 ∨ b = b0 + 1 ∨ b = b0 + 1 + 1 + 1) UX (fun b hb => Nat.lt_of_lt_of_le (hX b hb) hKW.1.2.2.2)).trans (kp_append (B := b0 + 1 + 1) (v' := .slice (some ⟨g9, 0, none⟩) ((gotC l subs k pre).length + 1) cap9) hXW hne' (fun b hb => by rcases hb with hb | hb | hb | hb <;> omega) hgrow)
            refine ⟨((keeps_upd UX).trans hk2).from _, hkx, ⟨_, hv2, ?_, trivial⟩, ⟨((grownBy_setCell' w9 _ _).os.trans (hgrow.os.trans ((World.grownBy_alloc wb2 _ none).os.trans UX.os))).trans hKW.1.1, ((grownBy_setCell' w9 _ _).tape.trans (hgrow.tape.trans ((World.grownBy_alloc wb2 _ none).tape.trans UX.tape))).trans hKW.1.2.1, ((grownBy_setCell' w9 _ _).output.trans (hgrow.output.trans ((World.grownBy_alloc wb2 _ none).output.trans UX.output))).trans hKW.1.2.2.1, Nat.le_trans hKW.1.2.2.2 (Nat.le_trans UX.size (Nat.le_trans (World.grownBy_alloc wb2 _ none).size (Nat.le_trans hgrow.size (grownBy_setCell' w9 _ _).size)))⟩, hKW.2.trans hkx⟩
            rw [gotC_some pre x hcf]
            simpa using hr2
          refine AllReady.cons (o := ⟨some 40, _, _, _, _, _⟩) rfl (fun K hK => ?_) AllReady.nil
          go_simp
          refine hof2.mono ?_
          rintro e wb2 ⟨rfl, ub2⟩
          have ub2 := (Upd.refl [] wb).drew.trans ub2
          have c2 := ub2.cell c2 (by simp); have c0 := ub2.cell c0 (by simp)
          have hvb : Boxed _ (b0 + 1 + 1) 56 v := ub2.heap hvb (by simp)
          have hrb := ownsRow_upd hrb ub2 (by simp)
          have UX := UX.trans ub2
          refine hK _ _ ?_
          clear hK K
          try simp only [Act.put, List.setIfInBounds_toArray, List.set_cons_zero, List.set_cons_succ]
          refine wpAny_ready (rs := [0, 4]) (by kernel_rfl) (by simp) ?_
          refine AllReady.cons (o := ⟨some 37, _, _, _, _, _⟩) rfl (fun K hK => ?_) ?_
          · go_simp
            refine hK _ _ ?_
            clear hK K
            try simp only [Act.put, List.setIfInBounds_toArray, List.set_cons_zero, List.set_cons_succ]
            refine wpAny_ready (rs := [4]) (by kernel_rfl) (by simp) ?_
            refine AllReady.cons (o := ⟨some 41, _, _, _, _, _⟩) rfl (fun K hK => ?_) AllReady.nil
            go_simp
            have uA := (Upd.refl [] wb2).alloc (.cells #[.int .i64 (ofP subs t)] 3)
            have c2 := uA.cell c2 (by simp); have c0 := uA.cell c0 (by simp)
            refine hK _ _ ?_
            clear hK K
            try simp only [Act.put, List.setIfInBounds_toArray, List.set_cons_zero, List.set_cons_succ]
            refine wpAny_ready (rs := [5]) (by kernel_rfl) (by simp) ?_
            refine AllReady.cons (o := ⟨some 42, _, _, _, _, _⟩) rfl (fun K hK => ?_) AllReady.nil
            obtain ⟨v9, w9, hrun9, hown, hgrow, -, -⟩ := run_append_own_at (P := Try.prog) (wb2.alloc (.cells #[.int .i64 (ofP subs t)] 3)) (b0 + 1 + 1) 56 56 3 i0 (.int .i64 0) 1 8 Try.underlying56 hi hz0 hz1 hz2 rfl (by decide) v _ _ (hrb.alloc _) ⟨wb2.heap.size, 0, none⟩ 1 1 [.int .i64 (ofP subs t)] rfl (cell_one_new _ _ _) (by simp [Value.oneCell']) (by unfold maxLen; omega) (by omega) (by simp; have := hvb.lt; omega)
            refine step_append_run rfl (.tmp 37) (.tmp 41) 56 rfl _ _ rfl rfl _ _ hrun9 ?_
            obtain ⟨g9, cap9, rfl⟩ := ownsRow_succ hown
            obtain ⟨hv1, hv2, hr2, hk2, hb2⟩ := hvb.appended (by decide) hrb (by have := hvb.lt; omega) (by omega) hown hgrow
            have hc1 := hv1.cell
            have hl1 := hv1.lt
            have hf1 := hv1.frozen
            refine hK _ _ ?_
            clear hK K
            try simp only [Act.put, List.setIfInBounds_toArray, List.set_cons_zero, List.set_cons_succ]
            refine wpAny_ready (rs := [6]) (by kernel_rfl) (by simp) ?_
            refine AllReady.cons (o := ⟨none, _, _, _, _, _⟩) rfl (fun K hK => ?_) AllReady.nil
            go_simp
            refine hK _ _ ?_
            clear hK K
            try simp only [Act.put, List.setIfInBounds_toArray, List.set_cons_zero, List.set_cons_succ]
            refine wpAny_done (by kernel_rfl) ?_ _
            refine OnlyNormal.go ?_
            simp only [Exit.inBlock]
            have k1' := UX.heap k1 (by simp)
            have k2' := UX.heap k2 (by simp)
            have k4' := UX.heap ((hKW.2 (b0 + 1 + 1 + 1) (.inr (.inr (.inr rfl)))).trans h4) (by simp)
            have hXW : ∀ b, (b < b0 ∨ b = b0 ∨ b = b0 + 1 ∨ b = b0 + 1 + 1 + 1) → b < wb2.heap.size := fun b hb => Nat.lt_of_lt_of_le (Nat.lt_of_lt_of_le (hX b hb) hKW.1.2.2.2) UX.size
            have hne' : ∀ b, (b < b0 ∨ b = b0 ∨ b = b0 + 1 ∨ b = b0 + 1 + 1 + 1) → some b ≠ v.ownBlock := fun b hb => by
              rcases hrb.2 with ⟨rfl, _⟩ | ⟨g, cap, cur, rfl, hbg, hg, _⟩
              · simp [Value.ownBlock]
              · intro e
                obtain rfl : b = g := by simpa [Value.ownBlock] using e
                rcases hb with hb | rfl | rfl | rfl
                · omega
                · omega
                · omega
                · rw [k4'] at hg
                  simp at hg
            have hkx := (Kp.upd (X := fun b => b < b0 ∨ b = b0 ∨ b = b0 + 1 ∨ b = b0 + 1 + 1 + 1) UX (fun b hb => Nat.lt_of_lt_of_le (hX b hb) hKW.1.2.2.2)).trans (kp_append (B := b0 + 1 + 1) (v' := .slice (some ⟨g9, 0, none⟩) ((gotC l subs k pre).length + 1) cap9) hXW hne' (fun b hb => by rcases hb with hb | hb | hb | hb <;> omega) hgrow)
            refine ⟨((keeps_upd UX).trans hk2).from _, hkx, ⟨_, hv2, ?_, trivial⟩, ⟨((grownBy_setCell' w9 _ _).os.trans (hgrow.os.trans ((World.grownBy_alloc wb2 _ none).os.trans UX.os))).trans hKW.1.1, ((grownBy_setCell' w9 _ _).tape.trans (hgrow.tape.trans ((World.grownBy_alloc wb2 _ none).tape.trans UX.tape))).trans hKW.1.2.1, ((grownBy_setCell' w9 _ _).output.trans (hgrow.output.trans ((World.grownBy_alloc wb2 _ none).output.trans UX.output))).trans hKW.1.2.2.1, Nat.le_trans hKW.1.2.2.2 (Nat.le_trans UX.size (Nat.le_trans (World.grownBy_alloc wb2 _ none).size (Nat.le_trans hgrow.size (grownBy_setCell' w9 _ _).size)))⟩, hKW.2.trans hkx⟩
            rw [gotC_some pre x hcf]
            simpa using hr2
          refine AllReady.cons (o := ⟨some 41, _, _, _, _, _⟩) rfl (fun K hK => ?_) AllReady.nil
          go_simp
          have uA := (Upd.refl [] wb2).alloc (.cells #[.int .i64 (ofP subs t)] 3)
          have c2 := uA.cell c2 (by simp); have c0 := uA.cell c0 (by simp)
          refine hK _ _ ?_
          clear hK K
          try simp only [Act.put, List.setIfInBounds_toArray, List.set_cons_zero, List.set_cons_succ]
          refine wpAny_ready (rs := [0]) (by kernel_rfl) (by simp) ?_
          refine AllReady.cons (o := ⟨some 37, _, _, _, _, _⟩) rfl (fun K hK => ?_) AllReady.nil
          go_simp
          refine hK _ _ ?_
          clear hK K
          try simp only [Act.put, List.setIfInBounds_toArray, List.set_cons_zero, List.set_cons_succ]
          refine wpAny_ready (rs := [5]) (by kernel_rfl) (by simp) ?_
          refine AllReady.cons (o := ⟨some 42, _, _, _, _, _⟩) rfl (fun K hK => ?_) AllReady.nil
          obtain ⟨v9, w9, hrun9, hown, hgrow, -, -⟩ := run_append_own_at (P := Try.prog) (wb2.alloc (.cells #[.int .i64 (ofP subs t)] 3)) (b0 + 1 + 1) 56 56 3 i0 (.int .i64 0) 1 8 Try.underlying56 hi hz0 hz1 hz2 rfl (by decide) v _ _ (hrb.alloc _) ⟨wb2.heap.size, 0, none⟩ 1 1 [.int .i64 (ofP subs t)] rfl (cell_one_new _ _ _) (by simp [Value.oneCell']) (by unfold maxLen; omega) (by omega) (by simp; have := hvb.lt; omega)
          refine step_append_run rfl (.tmp 37) (.tmp 41) 56 rfl _ _ rfl rfl _ _ hrun9 ?_
          obtain ⟨g9, cap9, rfl⟩ := ownsRow_succ hown
          obtain ⟨hv1, hv2, hr2, hk2, hb2⟩ := hvb.appended (by decide) hrb (by have := hvb.lt; omega) (by omega) hown hgrow
          have hc1 := hv1.cell
          have hl1 := hv1.lt
          have hf1 := hv1.frozen
          refine hK _ _ ?_
          clear hK K
          try simp only [Act.put, List.setIfInBounds_toArray, List.set_cons_zero, List.set_cons_succ]
          refine wpAny_ready (rs := [6]) (by kernel_rfl) (by simp) ?_
          refine AllReady.cons (o := ⟨none, _, _, _, _, _⟩) rfl (fun K hK => ?_) AllReady.nil
          go_simp
          refine hK _ _ ?_
          clear hK K
          try simp only [Act.put, List.setIfInBounds_toArray, List.set_cons_zero, List.set_cons_succ]
          refine wpAny_done (by kernel_rfl) ?_ _
          refine OnlyNormal.go ?_
          simp only [Exit.inBlock]
          have k1' := UX.heap k1 (by simp)
          have k2' := UX.heap k2 (by simp)
          have k4' := UX.heap ((hKW.2 (b0 + 1 + 1 + 1) (.inr (.inr (.inr rfl)))).trans h4) (by simp)
          have hXW : ∀ b, (b < b0 ∨ b = b0 ∨ b = b0 + 1 ∨ b = b0 + 1 + 1 + 1) → b < wb2.heap.size := fun b hb => Nat.lt_of_lt_of_le (Nat.lt_of_lt_of_le (hX b hb) hKW.1.2.2.2) UX.size
          have hne' : ∀ b, (b < b0 ∨ b = b0 ∨ b = b0 + 1 ∨ b = b0 + 1 + 1 + 1) → some b ≠ v.ownBlock := fun b hb => by
            rcases hrb.2 with ⟨rfl, _⟩ | ⟨g, cap, cur, rfl, hbg, hg, _⟩
            · simp [Value.ownBlock]
            · intro e
              obtain rfl : b = g := by simpa [Value.ownBlock] using e
              rcases hb with hb | rfl | rfl | rfl
              · omega
              · omega
              · omega
              · rw [k4'] at hg
                simp at hg
          have hkx := (Kp.upd (X := fun b => b < b0 ∨ b = b0 ∨ b = b0 + 1 ∨ b = b0 + 1 + 1 + 1) UX (fun b hb => Nat.lt_of_lt_of_le (hX b hb) hKW.1.2.2.2)).trans (kp_append (B := b0 + 1 + 1) (v' := .slice (some ⟨g9, 0, none⟩) ((gotC l subs k pre).length + 1) cap9) hXW hne' (fun b hb => by rcases hb with hb | hb | hb | hb <;> omega) hgrow)
          refine ⟨((keeps_upd UX).trans hk2).from _, hkx, ⟨_, hv2, ?_, trivial⟩, ⟨((grownBy_setCell' w9 _ _).os.trans (hgrow.os.trans ((World.grownBy_alloc wb2 _ none).os.trans UX.os))).trans hKW.1.1, ((grownBy_setCell' w9 _ _).tape.trans (hgrow.tape.trans ((World.grownBy_alloc wb2 _ none).tape.trans UX.tape))).trans hKW.1.2.1, ((grownBy_setCell' w9 _ _).output.trans (hgrow.output.trans ((World.grownBy_alloc wb2 _ none).output.trans UX.output))).trans hKW.1.2.2.1, Nat.le_trans hKW.1.2.2.2 (Nat.le_trans UX.size (Nat.le_trans (World.grownBy_alloc wb2 _ none).size (Nat.le_trans hgrow.size (grownBy_setCell' w9 _ _).size)))⟩, hKW.2.trans hkx⟩
          rw [gotC_some pre x hcf]
          simpa using hr2
        · have zo : (ofP subs x.1 == k) = false := by simp [hk]
          have hcf : callF l subs k x.1 = none := by unfold callF; rw [ho]; simp [hk]
          clear k7 hk
          generalize kindP l x.1 = kk at hkk z7
          refine wpIn_round_held (S := fun w' => w'.cell? ⟨b0, 0, none⟩ = some (.pointer (some ⟨p, 0, none⟩)) ∧ w'.cell? ⟨b0 + 1, 0, none⟩ = some (.int .i64 k) ∧ w'.cell? ⟨p, 0, none⟩ = some (.slice A l.length c)) (by kernel_rfl) (by kernel_rfl) (by exact ⟨c0, c1, cp⟩) (fun hHeld => ?_)
          refine wpAnyH_take (i := 0) (oi := ⟨some 20, _, _, _, _, _⟩) (v := ?vq1) rfl (by kernel_rfl) (by kernel_rfl) (by kernel_rfl) (fun _ _ _ h => h) (Or.inl ⟨by rfl, ?hyq1⟩) hHeld ?restq1
          case hyq1 => (intro wq hSw; (try dsimp only at hSw); go_simp; (try with_reducible rfl))
          try simp only [Act.put, List.setIfInBounds_toArray, List.set_cons_zero, List.set_cons_succ]
          refine wpAnyH_take (i := 1) (oi := ⟨some 21, _, _, _, _, _⟩) (v := ?vq2) rfl (by kernel_rfl) (by kernel_rfl) (by kernel_rfl) (fun _ _ _ h => h) (Or.inl ⟨by rfl, ?hyq2⟩) hHeld ?restq2
          case hyq2 => (intro wq hSw; (try dsimp only at hSw); go_simp; (try with_reducible rfl))
          try simp only [Act.put, List.setIfInBounds_toArray, List.set_cons_zero, List.set_cons_succ]
          refine wpAnyH_take (i := 2) (oi := ⟨some 22, _, _, _, _, _⟩) (v := ?vq3) rfl (by kernel_rfl) (by kernel_rfl) (by kernel_rfl) (fun _ _ _ h => h) (Or.inl ⟨by rfl, ?hyq3⟩) hHeld ?restq3
          case hyq3 => (intro wq hSw; (try dsimp only at hSw); go_simp; (try with_reducible rfl))
          try simp only [Act.put, List.setIfInBounds_toArray, List.set_cons_zero, List.set_cons_succ]
          refine wpAnyH_take (i := 3) (oi := ⟨some 23, _, _, _, _, _⟩) (v := ?vq4) rfl (by kernel_rfl) (by kernel_rfl) (by kernel_rfl) (fun _ _ _ h => h) (Or.inl ⟨by rfl, ?hyq4⟩) hHeld ?restq4
          case hyq4 => (intro wq hSw; (try dsimp only at hSw); go_simp; (try with_reducible rfl))
          try simp only [Act.put, List.setIfInBounds_toArray, List.set_cons_zero, List.set_cons_succ]
          refine wpAnyH_take (i := 4) (oi := ⟨some 24, _, _, _, _, _⟩) (v := ?vq5) rfl (by kernel_rfl) (by kernel_rfl) (by kernel_rfl) (fun _ _ _ h => h) (Or.inl ⟨by rfl, ?hyq5⟩) hHeld ?restq5
          case hyq5 => (intro wq hSw; (try dsimp only at hSw); go_simp; (try with_reducible rfl))
          try simp only [Act.put, List.setIfInBounds_toArray, List.set_cons_zero, List.set_cons_succ]
          refine wpAnyH_take (i := 5) (oi := ⟨some 25, _, _, _, _, _⟩) (v := ?vq6) rfl (by kernel_rfl) (by kernel_rfl) (by kernel_rfl) (fun _ _ _ h => h) (Or.inl ⟨by rfl, ?hyq6⟩) hHeld ?restq6
          case hyq6 => (intro wq hSw; (try dsimp only at hSw); go_simp; (try with_reducible rfl))
          try simp only [Act.put, List.setIfInBounds_toArray, List.set_cons_zero, List.set_cons_succ]
          refine wpAnyH_take (i := 6) (oi := ⟨some 26, _, _, _, _, _⟩) (v := ?vq7) rfl (by kernel_rfl) (by kernel_rfl) (by kernel_rfl) (fun _ _ _ h => h) (Or.inl ⟨by rfl, ?hyq7⟩) hHeld ?restq7
          case hyq7 => (intro wq hSw; (try dsimp only at hSw); go_simp; (try with_reducible rfl))
          try simp only [Act.put, List.setIfInBounds_toArray, List.set_cons_zero, List.set_cons_succ]
          refine wpAnyH_ready (rs := [7]) (by kernel_rfl) (by simp) ?_
          refine AllReadyH.cons (o := ⟨some 27, _, _, _, _, _⟩) rfl (fun K hK => ?_) AllReadyH.nil
          go_simp
          refine hkk.mono ?_; rintro e wa ⟨rfl, ua⟩; have c0 := ua.cell c0 (by simp); have c1 := ua.cell c1 (by simp); have cp := ua.cell cp (by simp); have UX := UX.trans ua; have hof := of103 (h.keep (UW.trans UX)) (hs.keep (UW.trans UX)) (by omega) x.1
          refine hK.out _ _ (by exact ⟨c0, c1, cp⟩) (fun hHeld => ?_)
          clear hK K
          try simp only [Act.put, List.setIfInBounds_toArray, List.set_cons_zero, List.set_cons_succ]
          refine wpAnyH_take (i := 8) (oi := ⟨some 28, _, _, _, _, _⟩) (v := ?vq8) rfl (by kernel_rfl) (by kernel_rfl) (by kernel_rfl) (fun _ _ _ h => h) (Or.inl ⟨by rfl, ?hyq8⟩) hHeld ?restq8
          case hyq8 => (intro wq hSw; (try dsimp only at hSw); go_simp; (try with_reducible rfl))
          try simp only [Act.put, List.setIfInBounds_toArray, List.set_cons_zero, List.set_cons_succ]
          refine wpAnyH_take (i := 9) (oi := ⟨some 29, _, _, _, _, _⟩) (v := ?vq9) rfl (by kernel_rfl) (by kernel_rfl) (by kernel_rfl) (fun _ _ _ h => h) (Or.inl ⟨by rfl, ?hyq9⟩) hHeld ?restq9
          case hyq9 => (intro wq hSw; (try dsimp only at hSw); go_simp; (try with_reducible rfl))
          try simp only [Act.put, List.setIfInBounds_toArray, List.set_cons_zero, List.set_cons_succ]
          refine wpAnyH_take (i := 10) (oi := ⟨some 30, _, _, _, _, _⟩) (v := ?vq10) rfl (by kernel_rfl) (by kernel_rfl) (by kernel_rfl) (fun _ _ _ h => h) (Or.inl ⟨by rfl, ?hyq10⟩) hHeld ?restq10
          case hyq10 => (intro wq hSw; (try dsimp only at hSw); go_simp; (try with_reducible rfl))
          try simp only [Act.put, List.setIfInBounds_toArray, List.set_cons_zero, List.set_cons_succ]
          refine wpAnyH_take (i := 11) (oi := ⟨some 31, _, _, _, _, _⟩) (v := ?vq11) rfl (by kernel_rfl) (by kernel_rfl) (by kernel_rfl) (fun _ _ _ h => h) (Or.inl ⟨by rfl, ?hyq11⟩) hHeld ?restq11
          case hyq11 => (intro wq hSw; (try dsimp only at hSw); go_simp; (try with_reducible rfl))
          try simp only [Act.put, List.setIfInBounds_toArray, List.set_cons_zero, List.set_cons_succ]
          refine wpAnyH_take (i := 12) (oi := ⟨some 32, _, _, _, _, _⟩) (v := ?vq12) rfl (by kernel_rfl) (by kernel_rfl) (by kernel_rfl) (fun _ _ _ h => h) (Or.inl ⟨by rfl, ?hyq12⟩) hHeld ?restq12
          case hyq12 => (intro wq hSw; (try dsimp only at hSw); go_simp; (try with_reducible rfl))
          try simp only [Act.put, List.setIfInBounds_toArray, List.set_cons_zero, List.set_cons_succ]
          refine wpAnyH_take (i := 14) (oi := ⟨some 34, _, _, _, _, _⟩) (v := ?vq13) rfl (by kernel_rfl) (by kernel_rfl) (by kernel_rfl) (fun _ _ _ h => h) (Or.inl ⟨by rfl, ?hyq13⟩) hHeld ?restq13
          case hyq13 => (intro wq hSw; (try dsimp only at hSw); go_simp; (try with_reducible rfl))
          try simp only [Act.put, List.setIfInBounds_toArray, List.set_cons_zero, List.set_cons_succ]
          refine wpAnyH_ready (rs := [13]) (by kernel_rfl) (by simp) ?_
          refine AllReadyH.cons (o := ⟨some 33, _, _, _, _, _⟩) rfl (fun K hK => ?_) AllReadyH.nil
          go_simp
          refine hof.mono ?_; rintro e wb ⟨rfl, ub⟩; have c0 := ub.cell c0 (by simp); have c1 := ub.cell c1 (by simp); have cp := ub.cell cp (by simp); have UX := UX.trans ub
          refine hK.out _ _ (by exact ⟨c0, c1, cp⟩) (fun hHeld => ?_)
          clear hK K
          try simp only [Act.put, List.setIfInBounds_toArray, List.set_cons_zero, List.set_cons_succ]
          refine wpAnyH_take (i := 15) (oi := ⟨some 35, _, _, _, _, _⟩) (v := ?vq14) rfl (by kernel_rfl) (by kernel_rfl) (by kernel_rfl) (fun _ _ _ h => h) (Or.inl ⟨by rfl, ?hyq14⟩) hHeld ?restq14
          case hyq14 => (intro wq hSw; (try dsimp only at hSw); go_simp; (try with_reducible rfl))
          try simp only [Act.put, List.setIfInBounds_toArray, List.set_cons_zero, List.set_cons_succ]
          refine wpAnyH_take (i := 16) (oi := ⟨some 36, _, _, _, _, _⟩) (v := ?vq15) rfl (by kernel_rfl) (by kernel_rfl) (by kernel_rfl) (fun _ _ _ h => h) (Or.inl ⟨by rfl, ?hyq15⟩) hHeld ?restq15
          case hyq15 => (intro wq hSw; (try dsimp only at hSw); go_simp; (try with_reducible rfl))
          try simp only [Act.put, List.setIfInBounds_toArray, List.set_cons_zero, List.set_cons_succ]
          refine wpAnyH_done (by kernel_rfl) ?_ _
          refine OnlyNormal.go ?_
          gi_wp2
          have hkx := Kp.upd (X := fun b => b < b0 ∨ b = b0 ∨ b = b0 + 1 ∨ b = b0 + 1 + 1 + 1) UX (fun b hb => Nat.lt_of_lt_of_le (hX b hb) hKW.1.2.2.2)
          refine ⟨(keeps_upd UX).from _, hkx, ⟨v, UX.heap hv (by simp), ?_, trivial⟩, hKW.step hkx (grown_of UX)⟩
          rw [gotC_none pre x hcf]
          exact ownsRow_upd hrw UX (by simp)
      · have z7 : (kindP l x.1 == 7) = false := by simp [k7]
        have hcf : callF l subs k x.1 = none := by unfold callF; rw [ho]; simp [k7]
        clear k7
        generalize kindP l x.1 = kk at hkk z7
        refine wpIn_round_held (S := fun w' => w'.cell? ⟨b0, 0, none⟩ = some (.pointer (some ⟨p, 0, none⟩)) ∧ w'.cell? ⟨b0 + 1, 0, none⟩ = some (.int .i64 k) ∧ w'.cell? ⟨p, 0, none⟩ = some (.slice A l.length c)) (by kernel_rfl) (by kernel_rfl) (by exact ⟨c0, c1, cp⟩) (fun hHeld => ?_)
        refine wpAnyH_take (i := 0) (oi := ⟨some 20, _, _, _, _, _⟩) (v := ?vk1) rfl (by kernel_rfl) (by kernel_rfl) (by kernel_rfl) (fun _ _ _ h => h) (Or.inl ⟨by rfl, ?hyk1⟩) hHeld ?restk1
        case hyk1 => (intro wq hSw; (try dsimp only at hSw); go_simp; (try with_reducible rfl))
        try simp only [Act.put, List.setIfInBounds_toArray, List.set_cons_zero, List.set_cons_succ]
        refine wpAnyH_take (i := 1) (oi := ⟨some 21, _, _, _, _, _⟩) (v := ?vk2) rfl (by kernel_rfl) (by kernel_rfl) (by kernel_rfl) (fun _ _ _ h => h) (Or.inl ⟨by rfl, ?hyk2⟩) hHeld ?restk2
        case hyk2 => (intro wq hSw; (try dsimp only at hSw); go_simp; (try with_reducible rfl))
        try simp only [Act.put, List.setIfInBounds_toArray, List.set_cons_zero, List.set_cons_succ]
        refine wpAnyH_take (i := 2) (oi := ⟨some 22, _, _, _, _, _⟩) (v := ?vk3) rfl (by kernel_rfl) (by kernel_rfl) (by kernel_rfl) (fun _ _ _ h => h) (Or.inl ⟨by rfl, ?hyk3⟩) hHeld ?restk3
        case hyk3 => (intro wq hSw; (try dsimp only at hSw); go_simp; (try with_reducible rfl))
        try simp only [Act.put, List.setIfInBounds_toArray, List.set_cons_zero, List.set_cons_succ]
        refine wpAnyH_take (i := 3) (oi := ⟨some 23, _, _, _, _, _⟩) (v := ?vk4) rfl (by kernel_rfl) (by kernel_rfl) (by kernel_rfl) (fun _ _ _ h => h) (Or.inl ⟨by rfl, ?hyk4⟩) hHeld ?restk4
        case hyk4 => (intro wq hSw; (try dsimp only at hSw); go_simp; (try with_reducible rfl))
        try simp only [Act.put, List.setIfInBounds_toArray, List.set_cons_zero, List.set_cons_succ]
        refine wpAnyH_take (i := 4) (oi := ⟨some 24, _, _, _, _, _⟩) (v := ?vk5) rfl (by kernel_rfl) (by kernel_rfl) (by kernel_rfl) (fun _ _ _ h => h) (Or.inl ⟨by rfl, ?hyk5⟩) hHeld ?restk5
        case hyk5 => (intro wq hSw; (try dsimp only at hSw); go_simp; (try with_reducible rfl))
        try simp only [Act.put, List.setIfInBounds_toArray, List.set_cons_zero, List.set_cons_succ]
        refine wpAnyH_take (i := 5) (oi := ⟨some 25, _, _, _, _, _⟩) (v := ?vk6) rfl (by kernel_rfl) (by kernel_rfl) (by kernel_rfl) (fun _ _ _ h => h) (Or.inl ⟨by rfl, ?hyk6⟩) hHeld ?restk6
        case hyk6 => (intro wq hSw; (try dsimp only at hSw); go_simp; (try with_reducible rfl))
        try simp only [Act.put, List.setIfInBounds_toArray, List.set_cons_zero, List.set_cons_succ]
        refine wpAnyH_take (i := 6) (oi := ⟨some 26, _, _, _, _, _⟩) (v := ?vk7) rfl (by kernel_rfl) (by kernel_rfl) (by kernel_rfl) (fun _ _ _ h => h) (Or.inl ⟨by rfl, ?hyk7⟩) hHeld ?restk7
        case hyk7 => (intro wq hSw; (try dsimp only at hSw); go_simp; (try with_reducible rfl))
        try simp only [Act.put, List.setIfInBounds_toArray, List.set_cons_zero, List.set_cons_succ]
        refine wpAnyH_ready (rs := [7]) (by kernel_rfl) (by simp) ?_
        refine AllReadyH.cons (o := ⟨some 27, _, _, _, _, _⟩) rfl (fun K hK => ?_) AllReadyH.nil
        go_simp
        refine hkk.mono ?_; rintro e wa ⟨rfl, ua⟩; have c0 := ua.cell c0 (by simp); have c1 := ua.cell c1 (by simp); have cp := ua.cell cp (by simp); have UX := UX.trans ua; have hof := of103 (h.keep (UW.trans UX)) (hs.keep (UW.trans UX)) (by omega) x.1
        refine hK.out _ _ (by exact ⟨c0, c1, cp⟩) (fun hHeld => ?_)
        clear hK K
        try simp only [Act.put, List.setIfInBounds_toArray, List.set_cons_zero, List.set_cons_succ]
        refine wpAnyH_take (i := 8) (oi := ⟨some 28, _, _, _, _, _⟩) (v := ?vk8) rfl (by kernel_rfl) (by kernel_rfl) (by kernel_rfl) (fun _ _ _ h => h) (Or.inl ⟨by rfl, ?hyk8⟩) hHeld ?restk8
        case hyk8 => (intro wq hSw; (try dsimp only at hSw); go_simp; (try with_reducible rfl))
        try simp only [Act.put, List.setIfInBounds_toArray, List.set_cons_zero, List.set_cons_succ]
        refine wpAnyH_take (i := 9) (oi := ⟨some 29, _, _, _, _, _⟩) (v := ?vk9) rfl (by kernel_rfl) (by kernel_rfl) (by kernel_rfl) (fun _ _ _ h => h) (Or.inl ⟨by rfl, ?hyk9⟩) hHeld ?restk9
        case hyk9 => (intro wq hSw; (try dsimp only at hSw); go_simp; (try with_reducible rfl))
        try simp only [Act.put, List.setIfInBounds_toArray, List.set_cons_zero, List.set_cons_succ]
        refine wpAnyH_take (i := 10) (oi := ⟨some 30, _, _, _, _, _⟩) (v := ?vk10) rfl (by kernel_rfl) (by kernel_rfl) (by kernel_rfl) (fun _ _ _ h => h) (Or.inl ⟨by rfl, ?hyk10⟩) hHeld ?restk10
        case hyk10 => (intro wq hSw; (try dsimp only at hSw); go_simp; (try with_reducible rfl))
        try simp only [Act.put, List.setIfInBounds_toArray, List.set_cons_zero, List.set_cons_succ]
        refine wpAnyH_take (i := 11) (oi := ⟨some 31, _, _, _, _, _⟩) (v := undef) rfl (by kernel_rfl) (by kernel_rfl) (by kernel_rfl) (fun _ _ _ h => h) (Or.inr ⟨by rfl, rfl⟩) hHeld ?_
        try simp only [Act.put, List.setIfInBounds_toArray, List.set_cons_zero, List.set_cons_succ]
        refine wpAnyH_take (i := 12) (oi := ⟨some 32, _, _, _, _, _⟩) (v := undef) rfl (by kernel_rfl) (by kernel_rfl) (by kernel_rfl) (fun _ _ _ h => h) (Or.inr ⟨by rfl, rfl⟩) hHeld ?_
        try simp only [Act.put, List.setIfInBounds_toArray, List.set_cons_zero, List.set_cons_succ]
        refine wpAnyH_take (i := 13) (oi := ⟨some 33, _, _, _, _, _⟩) (v := undef) rfl (by kernel_rfl) (by kernel_rfl) (by kernel_rfl) (fun _ _ _ h => h) (Or.inr ⟨by rfl, rfl⟩) hHeld ?_
        try simp only [Act.put, List.setIfInBounds_toArray, List.set_cons_zero, List.set_cons_succ]
        refine wpAnyH_take (i := 14) (oi := ⟨some 34, _, _, _, _, _⟩) (v := undef) rfl (by kernel_rfl) (by kernel_rfl) (by kernel_rfl) (fun _ _ _ h => h) (Or.inr ⟨by rfl, rfl⟩) hHeld ?_
        try simp only [Act.put, List.setIfInBounds_toArray, List.set_cons_zero, List.set_cons_succ]
        refine wpAnyH_take (i := 15) (oi := ⟨some 35, _, _, _, _, _⟩) (v := undef) rfl (by kernel_rfl) (by kernel_rfl) (by kernel_rfl) (fun _ _ _ h => h) (Or.inr ⟨by rfl, rfl⟩) hHeld ?_
        try simp only [Act.put, List.setIfInBounds_toArray, List.set_cons_zero, List.set_cons_succ]
        refine wpAnyH_take (i := 16) (oi := ⟨some 36, _, _, _, _, _⟩) (v := ?vk11) rfl (by kernel_rfl) (by kernel_rfl) (by kernel_rfl) (fun _ _ _ h => h) (Or.inl ⟨by rfl, ?hyk11⟩) hHeld ?restk11
        case hyk11 => (intro wq hSw; (try dsimp only at hSw); go_simp; (try with_reducible rfl))
        try simp only [Act.put, List.setIfInBounds_toArray, List.set_cons_zero, List.set_cons_succ]
        refine wpAnyH_done (by kernel_rfl) ?_ _
        refine OnlyNormal.go ?_
        gi_wp2
        have hkx := Kp.upd (X := fun b => b < b0 ∨ b = b0 ∨ b = b0 + 1 ∨ b = b0 + 1 + 1 + 1) UX (fun b hb => Nat.lt_of_lt_of_le (hX b hb) hKW.1.2.2.2)
        refine ⟨(keeps_upd UX).from _, hkx, ⟨v, UX.heap hv (by simp), ?_, trivial⟩, hKW.step hkx (grown_of UX)⟩
        rw [gotC_none pre x hcf]
        exact ownsRow_upd hrw UX (by simp)
  case done =>
    rintro D ys W hD hys ⟨⟨v, hv, hrw, -⟩, hKW⟩ hK
    have hg : gotC l subs k ys = callsP l subs k := by rw [callsP_eq]; unfold gotC; rw [hys]
    rw [hg] at hrw
    have UW : Upd [] w W := ⟨hKW.1.1.trans u0.os, hKW.1.2.1.trans u0.tape, hKW.1.2.2.1.trans u0.output, Nat.le_trans u0.size hKW.1.2.2.2, fun i hi _ => (hKW.2 i (.inl (by omega))).trans (u0.block i hi (by simp))⟩
    have hrw' : W.ownsRow w.heap.size 3 1 v (callsP l subs k).length ((callsP l subs k).map (Value.int .i64)) := ⟨hrw.1, hrw.2.imp id fun ⟨g, cap, cur, e1, e2, e3⟩ => ⟨g, cap, cur, e1, by omega, e3⟩⟩
    have HJ := sep_row (E := [(D, .deferred (some [])), (b0 + 1 + 1, .cells #[v] 56)]) UW hrw' (fun q hq => by
      simp only [List.mem_cons, List.not_mem_nil, or_false] at hq
      rcases hq with rfl | rfl
      · exact ⟨hK, by omega, own_ne hrw hK (fun cs fr e => by cases e)⟩
      · exact ⟨hv, by omega, hv.not_row (e := 3) (by decide) hrw⟩)
    obtain ⟨A1, c1, rfl, -⟩ := HJ.row
    rw [List.length_map] at hv HJ
    have cv := hv.cell
    have fv := hv.frozen
    have lv := hv.lt
    clear hKW hrw hrw' hg hP hX hrow h1 h2 h3 h4 u0 hys
    rename_i K1 Q1 hK1
    simp only [Exit.inBlock, Exit.then]
    refine hK1 _ _ ?_
    gi_wp2
    have hDb : b0 + 4 ≤ D := by omega
    have H1 := (HJ.drop ((b0 + 1 + 1, .cells #[.slice A1 (callsP l subs k).length c1] 56) :: (D, .deferred (some [])) :: []) (fun q hq => by
      simp only [List.mem_cons] at hq ⊢
      rcases hq with h | h | h <;> simp [h])).set ((Upd.refl [b0 + 1 + 1] W).setCell ⟨b0 + 1 + 1, 0, none⟩ (.slice A1 (callsP l subs k).length c1) (.inl (by simp))) (heap_setCell_same hv 0 (.slice A1 (callsP l subs k).length c1)) (fun q hq => by
      simp only [List.mem_cons, List.not_mem_nil, or_false] at hq
      subst hq
      show D ≠ b0 + 1 + 1; omega)
    have hd := H1.blk (b := D) (o := .deferred (some [])) (by simp)
    refine ⟨by simp, .inl ⟨_, _, rfl, run_takeDeferred hd, ?_⟩⟩
    have H2 := (H1.drop ((D, .deferred (some [])) :: (b0 + 1 + 1, .cells #[.slice A1 (callsP l subs k).length c1] 56) :: []) (fun q hq => by
      simp only [List.mem_cons] at hq
      simp only [List.setIfInBounds_toArray, List.set, List.mem_cons]
      rcases hq with h | h | h <;> simp [h])).set (o' := .deferred none) (.of_grown (grownBy_putObj' _ D (.deferred none))) (World.putObj_heap_same (lt_of_heap hd)) (fun q hq => by
      simp only [List.mem_cons, List.not_mem_nil, or_false] at hq
      subst hq
      show b0 + 1 + 1 ≠ D; omega)
    have cz := cell_of (H2.blk (b := b0 + 1 + 1) (o := .cells #[.slice A1 (callsP l subs k).length c1] 56) (by simp)) 0
    simp only [List.getElem?_toArray, List.getElem?_cons_zero] at cz
    refine ⟨.slice A1 (callsP l subs k).length c1, ?_, _, rfl, H2.drop [] (by simp)⟩
    simp [results, Try.f105, go_sem, cz]
  case stop =>
    rintro D cd pre W hD hpre hF hK
    exact hF.elim
end
end Go.Proofs.Ytibghcmkmbamjaa
