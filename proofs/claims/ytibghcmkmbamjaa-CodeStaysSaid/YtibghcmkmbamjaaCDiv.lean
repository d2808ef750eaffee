/- code: divides finds the subprograms. -/
import Derived.Test.YtibghcmkmbamjaaCBegin
import Derived.Test.YtibghcmkmbamjaaCWalk
import Derived.Test.YtibghcmkmbamjaaGNext
import Derived.RangeFuncBox
import Derived.Deep.RegionHeld3
import Derived.Deep.DrawnRows
import Derived.Test.YtibghcmkmbamjaaGLib
import Derived.Maps.AppendAt
import Derived.Test.YtibghcmkmbamjaaCDivA
namespace Go.Proofs.Ytibghcmkmbamjaa
open Go.RowKit Go.Shelf
set_option linter.unusedVariables false
set_option linter.unusedSimpArgs false
set_option linter.unusedSectionVars false
attribute [local go_sem] Oper.semAt_some
section
variable {w : World} {p c bm : Nat} {A : Option Addr} {l : List Ins} {b : List Int} {vS : Value}
set_option maxRecDepth 100000 in
set_option maxHeartbeats 8000000 in
theorem divides69 {w0 : World} {K : List (Nat × Obj)} {T : Res} [Good T] (h : Prg w p A c l bm b vS) (HS : SepK w0 w ((p, .cells #[.slice A l.length c, .map (some bm), .slice none 0 0] 85) :: K) T) (hpK : ∀ q ∈ K, q.1 ≠ p) (hne : 0 < l.length) :
    Calls Try.prog 69 #[.pointer (some ⟨p, 0, none⟩)] w fun e w' => ∃ v', e = .returned (.tuple #[]) ∧ SepK w0 w' ((p, .cells #[.slice A l.length c, .map (some bm), v'] 85) :: K) (star (rowR 53 2 v' ((subsP l).map encS)) T) := by
  refine (callsIn_wide (n := 5)).1 ?_
  refine callsIn_of_wp_marks Try.func69 rfl trivial ?_ rfl
  simp only [Try.ntmps69, List.size_toArray, List.length_cons, List.length_nil, Nat.reduceAdd, Nat.reduceSub, Array.replicate_succ, Array.replicate_zero, List.push_toArray, List.append_toArray, List.nil_append, List.cons_append]
  gi_wp2_with (refine ⟨trivial, ?_⟩; gi_at_call 66; refine (callsIn_wide.2 (all66 _)).mono ?_; rintro e w' ⟨rfl, rfl⟩)
  obtain ⟨W1, hW1⟩ : ∃ W1, W1 = ((((w.alloc (.cells #[.pointer (some ⟨p, 0, none⟩)] 82)).alloc (.cells #[.int .i64 0] 3)).alloc (.cells #[.slice (some ⟨w.heap.size + 1, 0, none⟩) 1 1] 56)).alloc (.cells #[.pointer (some ⟨p, 0, none⟩)] 82)) := ⟨_, rfl⟩
  have H := (((((SepK.start w).alloc (.cells #[.pointer (some ⟨p, 0, none⟩)] 82)).alloc (.cells #[.int .i64 0] 3)).alloc (.cells #[.slice (some ⟨w.heap.size + 1, 0, none⟩) 1 1] 56)).alloc (.cells #[.pointer (some ⟨p, 0, none⟩)] 82))
  simp only [alloc_size] at H
  rw [← hW1] at H
  rw [← hW1]
  have hsz : W1.heap.size = w.heap.size + 4 := by rw [hW1]; simp
  clear hW1
  have u0 := H.u
  have h1 := H.blk (b := w.heap.size) (o := .cells #[.pointer (some ⟨p, 0, none⟩)] 82 (0, 0)) (by simp)
  have h2 := H.blk (b := w.heap.size + 1) (o := .cells #[.int .i64 0] 3 (0, 0)) (by simp)
  have h3 : Boxed W1 (w.heap.size + 1 + 1) 56 (.slice (some ⟨w.heap.size + 1, 0, none⟩) 1 1) := H.blk (by simp)
  have h4 := H.blk (b := w.heap.size + 1 + 1 + 1) (o := .cells #[.pointer (some ⟨p, 0, none⟩)] 82 (0, 0)) (by simp)
  have hrow : W1.ownsRow w.heap.size 3 1 (.slice (some ⟨w.heap.size + 1, 0, none⟩) 1 1) 1 [.int .i64 0] := ⟨by simp, .inr ⟨w.heap.size + 1, 1, #[.int .i64 0], rfl, by omega, h2, by omega, by unfold maxLen; omega, by simp, by simp⟩⟩
  clear H
  have hX : ∀ b, (b < w.heap.size ∨ b = w.heap.size ∨ b = w.heap.size + 1 + 1 + 1) → b < W1.heap.size := fun b hb => by omega
  have hP : Prl (fun b => b < w.heap.size ∨ b = w.heap.size ∨ b = w.heap.size + 1 + 1 + 1) W1 (w.heap.size + 1 + 1 + 1) p A c l := by
    have lp := lt_of_heap h.blk
    refine ⟨h4, .inr (.inr rfl), ⟨_, _, u0.heap h.blk (by simp)⟩, .inl lp, h.row.keep u0, fun b off e => ?_, h.ok, h.len⟩
    obtain ⟨x, hx⟩ : ∃ x, l[0]? = some x := ⟨l[0], List.getElem?_eq_getElem hne⟩
    obtain ⟨b', off', e', k0, -⟩ := cellN h.row hx
    rw [e] at e'
    cases e'
    exact .inl (World.block_lt_of_cell? w _ k0)
  have hll := h.len
  obtain ⟨b0, hb0⟩ : ∃ b0, w.heap.size = b0 := ⟨_, rfl⟩
  rw [hb0] at h1 h2 h3 h4 hrow hX hP hsz ⊢
  obtain ⟨i0, hi, hz0, hz1, hz2⟩ := info_parts info3
  refine wpIn_rangeFunc_ownG rfl (by omega) (gf := 99) (lb := #[.pointer (some ⟨b0 + 1 + 1 + 1, 0, none⟩)]) rfl trivial (enters_of Try.func99 (by kernel_rfl) rfl) (all_stops (X := fun b => b < b0 ∨ b = b0 ∨ b = b0 + 1 + 1 + 1) 4 (by omega) W1 hP) (fun h k => h.trans k) (kp_b hX) (Below.refl _ _) (fun _ => rfl)
    (fun pre W => (∃ v, Boxed W (b0 + 1 + 1) 56 v ∧ W.ownsRow b0 3 1 v (gotP l pre).length ((gotP l pre).map (Value.int .i64)) ∧ True) ∧ KpW (fun b => b < b0 ∨ b = b0 ∨ b = b0 + 1 + 1 + 1) W1 W)
    (fun _ _ _ => False)
    (OwnFrom.and (Own.from (holdsRow_own b0 (b0 + 1 + 1) 56 3 1 (fun pre => (gotP l pre).length) (fun pre => (gotP l pre).map (Value.int .i64)) (fun _ _ => True)) _) (own_kpw (fun b hb => ⟨hX b hb, hX b hb⟩)))
    (fun _ _ _ _ _ hs _ _ => hs)
    ⟨⟨_, h3, hrow, trivial⟩, ⟨rfl, rfl, rfl, Nat.le_refl _⟩, Kp.refl _ _⟩
    (fun x => { tmps := #[.pointer (some ⟨p, 0, none⟩), .pointer (some ⟨b0, 0, none⟩), .pointer (some ⟨b0 + 1 + 1, 0, none⟩), .int .i64 x.1, undef, undef, undef, undef, .slice (some ⟨b0 + 1, 0, none⟩) 1 1, .pointer (some ⟨p, 0, none⟩), .func (.func 99) #[] #[.pointer (some ⟨b0 + 1 + 1 + 1, 0, none⟩)], .int .i64 x.1, undef, undef, undef, undef, undef, undef, undef, undef, undef, undef, undef, undef, undef, undef, undef, undef, undef, undef, undef, undef, undef, undef, undef, undef, undef, undef, undef, undef, undef, undef, undef, undef, undef, undef, undef, undef, undef, undef, undef, undef, undef, undef, undef, undef, undef, undef, undef, undef, undef, undef, undef, undef, undef], defers := [] }) ?assign ?body ?done ?stop
  case assign =>
    intro l x W K hK
    gi_wp2
    exact hK
  case body =>
    rintro y pre x W ⟨⟨v, hv, hrw, -⟩, hKW⟩ hlt
    have hQ := hP.keep hKW.2
    obtain ⟨vm, vS', hb⟩ := hQ.blk
    have k1 := (hKW.2 b0 (.inr (.inl rfl))).trans h1
    have c1 := cell_of k1 0
    have cp := cell_of hb 0
    simp only [List.getElem?_toArray, List.getElem?_cons_zero] at c1 cp
    have lb := lt_of_heap k1
    have lp := lt_of_heap hb
    have hcc := callee37 c hQ.row hQ.ok x.1 (by omega)
    have hgl := gotP_len (l := l) pre
    cases ho : calleeP l x.1 with
    | none =>
      rw [ho] at hcc
      simp only [ansC, Option.getD_none, Option.isSome_none] at hcc
      gi_wp2_with (refine ⟨trivial, ?_⟩; gi_at_call 37; refine (CallsIn.inRound y (callsIn_wide.2 hcc)).mono ?_; rintro e W' ⟨rfl, u1⟩)
      have hkx := Kp.upd (X := fun b => b < b0 ∨ b = b0 ∨ b = b0 + 1 + 1 + 1) u1 (fun b hb => Nat.lt_of_lt_of_le (hX b hb) hKW.1.2.2.2)
      refine ⟨(keeps_upd u1).from _, hkx, ⟨v, u1.heap hv (by simp), ?_, trivial⟩, hKW.step hkx (grown_of u1)⟩
      rw [gotP_none pre x ho]
      exact ownsRow_upd hrw u1 (by simp)
    | some t =>
      rw [ho] at hcc
      simp only [ansC, Option.getD_some, Option.isSome_some] at hcc
      gi_wp2_with (first
        | (refine ⟨trivial, ?_⟩; gi_at_call 37; refine (CallsIn.inRound y (callsIn_wide.2 hcc)).mono ?_; rintro e W' ⟨rfl, u1⟩; have hv' : Boxed W' (b0 + 1 + 1) 56 v := u1.heap hv (by simp); have hrw' := ownsRow_upd hrw u1 (by simp); have hcv := hv'.cell; have lv := hv'.lt)
        | (gi_at_builtin; refine wpListIn_append_own _ rfl _ _ 56 rfl b0 3 i0 (.int .i64 0) 1 8 Try.underlying56 hi hz0 hz1 hz2 rfl (by decide) _ _ _ rfl (hrw'.alloc _) ⟨W'.heap.size, 0, none⟩ 1 1 [.int .i64 t] rfl rfl (cell_one_new _ _ _) (by simp [Value.oneCell']) (by unfold maxLen; omega) (by omega) (by simp; omega) ?_; intro v' w1 hown' hgrow _; obtain ⟨g', cap', rfl⟩ := ownsRow_succ hown'; obtain ⟨hv1, hv2, hr2, hk2, hb2⟩ := hv'.appended (by decide) hrw' (by omega) (by omega) hown' hgrow; have hc1 := hv1.cell; have hf1 := hv1.frozen))
      have k1' := u1.heap k1 (by simp)
      have k4' := u1.heap ((hKW.2 (b0 + 1 + 1 + 1) (.inr (.inr rfl))).trans h4) (by simp)
      have hXW : ∀ b, (b < b0 ∨ b = b0 ∨ b = b0 + 1 + 1 + 1) → b < W'.heap.size := fun b hb => Nat.lt_of_lt_of_le (Nat.lt_of_lt_of_le (hX b hb) hKW.1.2.2.2) u1.size
      have hne' : ∀ b, (b < b0 ∨ b = b0 ∨ b = b0 + 1 + 1 + 1) → some b ≠ v.ownBlock := fun b hb => by
        rcases hrw'.2 with ⟨rfl, _⟩ | ⟨g, cap, cur, rfl, hbg, hg, _⟩
        · simp [Value.ownBlock]
        · intro e
          obtain rfl : b = g := by simpa [Value.ownBlock] using e
          rcases hb with hb | rfl | rfl
          · omega
          · rw [k1'] at hg
            simp at hg
          · rw [k4'] at hg
            simp at hg
      have hkx := (Kp.upd (X := fun b => b < b0 ∨ b = b0 ∨ b = b0 + 1 + 1 + 1) u1 (fun b hb => Nat.lt_of_lt_of_le (hX b hb) hKW.1.2.2.2)).trans (kp_append (B := b0 + 1 + 1) (v' := .slice (some ⟨g', 0, none⟩) ((gotP l pre).length + 1) cap') hXW hne' (fun b hb => by rcases hb with hb | hb | hb <;> omega) hgrow)
      refine ⟨((keeps_upd u1).trans hk2).from _, hkx, ⟨_, hv2, ?_, trivial⟩, ⟨((grownBy_setCell' w1 _ _).os.trans (hgrow.os.trans ((World.grownBy_alloc W' _ none).os.trans u1.os))).trans hKW.1.1, ((grownBy_setCell' w1 _ _).tape.trans (hgrow.tape.trans ((World.grownBy_alloc W' _ none).tape.trans u1.tape))).trans hKW.1.2.1, ((grownBy_setCell' w1 _ _).output.trans (hgrow.output.trans ((World.grownBy_alloc W' _ none).output.trans u1.output))).trans hKW.1.2.2.1, Nat.le_trans hKW.1.2.2.2 (Nat.le_trans u1.size (Nat.le_trans (World.grownBy_alloc W' _ none).size (Nat.le_trans hgrow.size (grownBy_setCell' w1 _ _).size)))⟩, hKW.2.trans hkx⟩
      rw [gotP_some pre x ho]
      simpa using hr2
  case done =>
    rintro D ys W hD hys ⟨⟨v, hv, hrw, -⟩, hKW⟩ hK
    have hg : gotP l ys = 0 :: (allP l).filterMap (calleeP l) := by unfold gotP; rw [hys]
    have hgl := gotP_len (l := l) ys
    have hyl : ys.length ≤ l.length := by
      have h1 := congrArg List.length hys
      have h2 := allF_len (l := l) l.length 0
      rw [List.length_map] at h1
      unfold allP at h1
      omega
    rw [hg] at hrw hgl
    obtain ⟨L, hL⟩ : ∃ L, (0 :: (allP l).filterMap (calleeP l) : List Int) = L := ⟨_, rfl⟩
    rw [hL] at hrw hgl
    have UW : Upd [] w W := ⟨hKW.1.1.trans u0.os, hKW.1.2.1.trans u0.tape, hKW.1.2.2.1.trans u0.output, Nat.le_trans u0.size hKW.1.2.2.2, fun i hi _ => (hKW.2 i (.inl (by omega))).trans (u0.block i hi (by simp))⟩
    have k1 := (hKW.2 b0 (.inr (.inl rfl))).trans h1
    have HJ := HS.join (sep_row (E := [(b0 + 1 + 1, .cells #[v] 56), (b0, .cells #[.pointer (some ⟨p, 0, none⟩)] 82), (D, .deferred (some []))]) UW (by rw [hb0]; exact hrw) (fun q hq => by
      simp only [List.mem_cons, List.not_mem_nil, or_false] at hq
      rcases hq with rfl | rfl | rfl
      · exact ⟨hv, by omega, hv.not_row (e := 3) (by decide) hrw⟩
      · exact ⟨k1, by omega, own_ne hrw k1 (fun cs fr e => by simp at e)⟩
      · exact ⟨hK, by omega, own_ne hrw hK (fun cs fr e => by cases e)⟩))
    simp only [List.cons_append, List.nil_append] at HJ
    have hpb : p < b0 := by
      have := lt_of_heap h.blk
      omega
    have hDb : b0 + 4 ≤ D := by omega
    have hKb : ∀ q ∈ K, q.1 < b0 := fun q hq => by
      have := lt_of_heap (HS.blk (List.mem_cons_of_mem _ hq))
      omega
    have hLl : L.length ≤ 1025 := by omega
    have hst : startsP l = riseU L := by rw [← hL]; rfl
    clear hL hKW hrw hv hg hgl hyl hP hX hrow h1 h2 h3 h4 u0 hD hys UW k1 hK
    rename_i K1 Q1 hK1
    simp only [Exit.inBlock, Exit.then]
    refine hK1 _ _ ?_
    refine wpIn_wide.2 ?_
    clear hK1
    refine Code.wp_mono NoPanic.imp ?_
    have kb := HJ.blk (b := b0 + 1 + 1) (o := .cells #[v] 56) (by simp)
    have cb := cell_of kb 0
    have lb := lt_of_heap kb
    simp only [List.getElem?_toArray, List.getElem?_cons_zero] at cb
    obtain ⟨A1, c1, rfl, -⟩ := HJ.row
    rw [List.length_map] at HJ cb
    clear kb
    go_wp2_with fail
    refine (sort87 HJ (by omega)).mono ?_
    rintro e w2 ⟨rfl, H2⟩
    clear HJ cb lb
    obtain ⟨M, hM⟩ : ∃ M, M = L.mergeSort fun x y => decide (x ≤ y) := ⟨_, rfl⟩
    have hMl : M.length ≤ 1025 := by rw [hM, List.length_mergeSort]; exact hLl
    have hMc : Go.Lib.compact M = startsP l := by rw [hM, hst, rise_eq]
    rw [← hM] at H2
    have hMl' : M.length ≤ 100000 := by omega
    have hMcl : (Go.Lib.compact M).length ≤ 1025 := by
      unfold Go.Lib.compact Go.Lib.compactUpTo
      rw [List.length_map]
      exact Nat.le_trans (List.length_filter_le _ _) (by simpa using hMl)
    clear hM hst hLl
    have H2d := H2.upd (Upd.refl [] _).drew
    have kb := H2d.blk (b := b0 + 1 + 1) (o := .cells #[.slice A1 L.length c1] 56) (by simp)
    have cb := cell_of kb 0
    have k0 := H2d.blk (b := b0) (o := .cells #[.pointer (some ⟨p, 0, none⟩)] 82) (by simp)
    have cb0 := cell_of k0 0
    have kp := H2d.blk (b := p) (o := .cells #[.slice A l.length c, .map (some bm), .slice none 0 0] 85) (by simp)
    have cp := cell_of kp 0
    simp only [List.getElem?_toArray, List.getElem?_cons_zero] at cb cb0 cp
    have lb := lt_of_heap kb
    have lb0 := lt_of_heap k0
    have lp := lt_of_heap kp
    have H2a := (H2.alloc (.cells #[.int .i64 (l.length : Int)] 3)).upd (Upd.refl [] _).drew
    have cb' : w2.cell? ⟨b0 + 1 + 1, 0, none⟩ = some (.slice A1 L.length c1) := cb
    have cb0' : w2.cell? ⟨b0, 0, none⟩ = some (.pointer (some ⟨p, 0, none⟩)) := cb0
    have cp' : w2.cell? ⟨p, 0, none⟩ = some (.slice A l.length c) := cp
    have lb' : b0 + 1 + 1 < w2.heap.size := lb
    have lb0' : b0 < w2.heap.size := lb0
    have lp' : p < w2.heap.size := lp
    clear kb k0 kp
    have C1 := compact88 H2d hMl'
    have C2 := compact88 H2a hMl'
    rw [hMc] at C1 C2 hMcl
    clear hMc hMl hMl'
    have hc88 : ∀ args w, (callFunc 88 args).run Try.prog w = .ok (.enter 88 args) w := enters_of Try.func88 (by kernel_rfl) rfl
    go_wp2_with fail
    go_cut [] from 28 to 36 (fun wx => ∃ v8, SepK w0 wx (dKK b0 p D v8 A l.length c bm (.slice none 0 0) K) (star (rowR 3 1 v8 ((startsP l).map encZi ++ [[.int .i64 (l.length : Int)]])) T))
    case first =>
      go_region_law (first
        | (refine step_call_ret rfl 88 (.tmp 28) 56 rfl _ rfl hc88 C1 ?_; rintro e w5 ⟨v5, rfl, H5⟩; refine ⟨_, rfl, ?_⟩; have q0 := H5.blk (b := b0) (o := .cells #[.pointer (some ⟨p, 0, none⟩)] 82) (by simp); have cq0 := cell_of q0 0; have lq0 := lt_of_heap q0; have qp := H5.blk (b := p) (o := .cells #[.slice A l.length c, .map (some bm), .slice none 0 0] 85) (by simp); have cqp := cell_of qp 0; have lqp := lt_of_heap qp; simp only [List.getElem?_toArray, List.getElem?_cons_zero] at cq0 cqp; clear q0 qp)
        | (refine step_call_ret rfl 88 (.tmp 28) 56 rfl _ rfl hc88 C2 ?_; rintro e w5 ⟨v5, rfl, H5⟩; refine ⟨_, rfl, ?_⟩; have q0 := H5.blk (b := b0) (o := .cells #[.pointer (some ⟨p, 0, none⟩)] 82) (by simp); have cq0 := cell_of q0 0; have lq0 := lt_of_heap q0; have qp := H5.blk (b := p) (o := .cells #[.slice A l.length c, .map (some bm), .slice none 0 0] 85) (by simp); have cqp := cell_of qp 0; have lqp := lt_of_heap qp; simp only [List.getElem?_toArray, List.getElem?_cons_zero] at cq0 cqp; clear q0 qp)
        | (refine step_append_sep rfl (.tmp 29) (.tmp 35) 56 rfl 3 i0 (.int .i64 0) 1 8 Try.underlying56 hi hz0 hz1 hz2 rfl (by decide) _ _ rfl (H5.alloc (.cells #[.int .i64 (l.length : Int)] 3)) (.slice (some ⟨w5.heap.size, 0, none⟩) 1 1) [[.int .i64 (l.length : Int)]] rfl (part1_of (heap_alloc_new w5 _)) (by simp) (by intro r hr; simp at hr; subst hr; intro u hu; simp at hu; subst hu; rfl) (by unfold maxLen; simp; omega) (by simp; omega) ?_; intro v9 w9 H9; have q9 := H9.blk (b := b0 + 1 + 1) (o := .cells #[.slice A1 L.length c1] 56) (by simp); have cq9 := cell_of q9 0; have lq9 := lt_of_heap q9; have fq9 := frozen_of q9 0; simp only [List.getElem?_toArray, List.getElem?_cons_zero] at cq9; clear q9; obtain ⟨A9, c9, rfl, -⟩ := H9.row; simp only [List.length_append, List.length_map, List.length_cons, List.length_nil] at H9)
        | (refine step_append_sep rfl (.tmp 29) (.tmp 35) 56 rfl 3 i0 (.int .i64 0) 1 8 Try.underlying56 hi hz0 hz1 hz2 rfl (by decide) _ _ rfl H5 (.slice (some ⟨w2.heap.size, 0, none⟩) 1 1) [[.int .i64 (l.length : Int)]] rfl (part1_of (H5.blk List.mem_cons_self)) (by simp) (by intro r hr; simp at hr; subst hr; intro u hu; simp at hu; subst hu; rfl) (by unfold maxLen; simp; omega) (by simp; omega) ?_; intro v9 w9 H9; have q9 := H9.blk (b := b0 + 1 + 1) (o := .cells #[.slice A1 L.length c1] 56) (by simp); have cq9 := cell_of q9 0; have lq9 := lt_of_heap q9; have fq9 := frozen_of q9 0; simp only [List.getElem?_toArray, List.getElem?_cons_zero] at cq9; clear q9; obtain ⟨A9, c9, rfl, -⟩ := H9.row; simp only [List.length_append, List.length_map, List.length_cons, List.length_nil] at H9))
      all_goals (go_wp2_with fail; go_meet; exact ⟨_, dKK_set (H9.drop (dKK b0 p D (.slice A1 L.length c1) A l.length c bm (.slice none 0 0) K) (fun q hq => List.mem_cons_of_mem _ hq)) hpb hDb hKb _⟩)
    case rest =>
      obtain ⟨v8, H8⟩ := hcut
      clear C1 C2 H2 H2d H2a cb cb0 cp lb lb0 lp cb' cb0' cp' lb' lb0' lp' hc88
      have hst : ∀ k x, ((startsP l) ++ [(l.length : Int)])[k]? = some x → ((startsP l).map encZi ++ [[.int .i64 (l.length : Int)]])[k]? = some (encZi x) := fun k x hx => by
        have e : (startsP l).map encZi ++ [[Value.int .i64 (l.length : Int)]] = ((startsP l) ++ [(l.length : Int)]).map encZi := by simp [encZi]
        rw [e, List.getElem?_map, hx]; rfl
      obtain ⟨A8, c8, rfl, hr8, hlc8, hm8, hn8⟩ := H8.parts
      have hlen : ((startsP l).map encZi ++ [[Value.int .i64 (l.length : Int)]]).length = (startsP l).length + 1 := by simp
      rw [hlen] at H8 hlc8
      generalize hR8 : (startsP l).map encZi ++ [[Value.int .i64 (l.length : Int)]] = R8 at H8 hr8 hlen hst
      clear hR8
      have hsubs : ∀ (k : Nat) (x y : Int), (startsP l ++ [(l.length : Int)])[k]? = some x → (startsP l ++ [(l.length : Int)])[k + 1]? = some y → (subsP l)[k]? = some (x, y) := fun k x y h1 h2 => pairs_at _ _ k x y h1 h2
      have hsl : (subsP l).length = (startsP l).length := pairs_len _ _
      obtain ⟨m, hm⟩ : ∃ m, m = (startsP l).length := ⟨_, rfl⟩
      have hm1 : m ≤ 1025 := by rw [hm]; exact hMcl
      rw [← hm] at H8 hlc8 hlen hsl
      have hSl : (startsP l ++ [(l.length : Int)]).length = m + 1 := by simp [hm]
      generalize startsP l ++ [(l.length : Int)] = S at hst hsubs hSl
      generalize hss : subsP l = ss at hsubs hsl
      have HS' : Unit → subsP l = ss := fun _ => hss
      clear hss hm hMcl
      obtain ⟨b8, o8, rfl⟩ : ∃ b8 o8, A8 = some ⟨b8, o8, none⟩ := by
        obtain ⟨b8, o8, e, -⟩ := hr8 0 _ (hst 0 _ (List.getElem?_eq_getElem (by omega)))
        exact ⟨b8, o8, e⟩
      clear hn8 hr8
      have kb := H8.blk (b := b0 + 1 + 1) (o := .cells #[.slice (some ⟨b8, o8, none⟩) (m + 1) c8] 56) (by simp)
      have cb := cell_of kb 0
      simp only [List.getElem?_toArray, List.getElem?_cons_zero] at cb
      have lb := lt_of_heap kb
      clear kb
      have H9 := H8.row0 53 2
      clear H8
      have y0 : IntKind.i64.wrap (m : Int) = (m : Int) := IntWalk.i64_in _ (by omega)
      go_wp2_with fail
      go_loopg [43, 6, 7] m (fun kq v43 v6 v7 w' => ∃ (i : Nat) (vs' : Value), v43 = .int .i64 (i : Int) ∧ kq + i = m ∧ SepK w0 w' (dKK b0 p D (.slice (some ⟨b8, o8, none⟩) (m + 1) c8) A l.length c bm vs' K) (star (rowR 53 2 vs' ((ss.take i).map encS)) (star (rowR 3 1 (.slice (some ⟨b8, o8, none⟩) (m + 1) c8) R8) T)))
      case atStart => exact ⟨0, _, rfl, rfl, H9⟩
      case round =>
        clear H9 cb lb
        obtain ⟨i, vs', rfl, hk, H⟩ := hrel
        by_cases hi : i < m
        · have z1 : decide ((i : Int) < (m : Int)) = true := decide_eq_true (by omega)
          have z2 : (0 : Int) ≤ (i : Int) := by omega
          have z3 : (i : Int) < (m : Int) := by omega
          have y1 : IntKind.i64.wrap ((i : Int) + 1) = (i : Int) + 1 := IntWalk.i64_in _ (by omega)
          have z4 : (i : Int) + 1 < (m : Int) + 1 := by omega
          have z5 : (0 : Int) ≤ (i : Int) + 1 := by omega
          obtain ⟨x, hx⟩ : ∃ x, S[i]? = some x := ⟨_, List.getElem?_eq_getElem (by omega)⟩
          obtain ⟨y, hy⟩ : ∃ y, S[i + 1]? = some y := ⟨_, List.getElem?_eq_getElem (by omega)⟩
          have hxy := hsubs i x y hx hy
          obtain ⟨A', c', e, hr⟩ := H.swap.row
          rw [hlen] at e
          cases e
          obtain ⟨b', o', e, k1⟩ := hr i _ (hst i x hx)
          cases e
          obtain ⟨b', o', e, k2⟩ := hr (i + 1) _ (hst (i + 1) y hy)
          cases e
          have k1 := k1 0 _ rfl
          have k2 := k2 0 _ rfl
          simp only [Nat.mul_one, Nat.add_zero] at k1 k2
          clear hr hst hsubs hx hy
          have hbx := H.blk (b := b0 + 1 + 1) (o := .cells #[.slice (some ⟨b8, o8, none⟩) (m + 1) c8] 56) (by simp)
          have cb := cell_of hbx 0
          have lb := lt_of_heap hbx
          have hb0' := H.blk (b := b0) (o := .cells #[.pointer (some ⟨p, 0, none⟩)] 82) (by simp)
          have cb0 := cell_of hb0' 0
          have lb0 := lt_of_heap hb0'
          obtain ⟨As, cs, rfl, -⟩ := H.row
          have hsl2 : ((ss.take i).map encS).length = i := by simp; omega
          rw [hsl2] at H
          have hpx := H.blk (b := p) (o := .cells #[.slice A l.length c, .map (some bm), .slice As i cs] 85) (by simp)
          have cp := cell_of hpx 2
          have lp := lt_of_heap hpx
          simp only [List.getElem?_toArray, List.getElem?_cons_zero, List.getElem?_cons_succ] at cb cb0 cp
          clear hbx hb0' hpx
          go_upto_block 3 with fail
          have H5 := (H.upd (Upd.refl [] _).drew).alloc (.cells #[.int .i64 x, .int .i64 y] 53)
          obtain ⟨i5, hi5, gz0, gz1, gz2⟩ := info_parts info53
          obtain ⟨v1, w4, hrun1, H6⟩ := run_append_part (P := Try.prog) 44 44 53 i5 _ 2 16 Try.underlying44 hi5 gz0 gz1 gz2 rfl (by decide) _ _ H5 (.slice (some ⟨wr.heap.size, 0, none⟩) 1 1) [[.int .i64 x, .int .i64 y]] (part2_of (heap_alloc_new _ _)) (by simp) (by intro r hr; simp at hr; subst hr; intro u hu; simp at hu; rcases hu with rfl | rfl <;> rfl) (by unfold maxLen; simp; omega) (by simp; omega)
          have hap : (ss.take i).map encS ++ [[.int .i64 x, .int .i64 y]] = (ss.take (i + 1)).map encS := by
            rw [List.take_add_one, hxy]
            simp [encS]
          rw [hap] at H6
          have hsl3 : ((ss.take (i + 1)).map encS).length = i + 1 := by simp; omega
          clear H5 hi5 gz0 gz1 gz2
          obtain ⟨A2, c2, rfl, -⟩ := H6.row
          rw [hsl3] at H6 hrun1
          have f6 := H6.blk (b := p) (o := .cells #[.slice A l.length c, .map (some bm), .slice As i cs] 85) (by simp)
          have ff6 := frozen_of f6 2
          have l6 := lt_of_heap f6
          have c6 := cell_of f6 2
          have g6 := H6.blk (b := b0) (o := .cells #[.pointer (some ⟨p, 0, none⟩)] 82) (by simp)
          have cg6 := cell_of g6 0
          have lg6 := lt_of_heap g6
          simp only [List.getElem?_toArray, List.getElem?_cons_zero, List.getElem?_cons_succ] at c6 cg6
          clear hap hxy hsl2 hsl3
          go_cut [6, 7] from 45 to 63 (fun _ _ wx => wx = w4.setCell ⟨p, 2, none⟩ (.slice A2 (i + 1) c2))
          case first =>
            go_wp2_with fail
            go_region_law (first | (refine step_append_run rfl (.tmp 52) (.tmp 60) 44 rfl _ _ rfl rfl _ _ hrun1 ?_))
            all_goals (first | (go_meet; exact rfl) | (go_wp2_with fail; go_meet; exact rfl))
          case rest =>
          subst hcut
          have H7 := dKK_setp (H6.drop (dKK b0 p D (.slice (some ⟨b8, o8, none⟩) (m + 1) c8) A l.length c bm (.slice As i cs) K) (fun q hq => List.mem_cons_of_mem _ hq)) hpb hDb hpK (.slice A2 (i + 1) c2)
          clear H6 f6 ff6 l6 c6 g6 cg6 lg6 hrun1 H cb cb0 cp lb lb0 lp k1 k2
          go_wp2_with fail
          go_roundg (gk - 1)
          case measure => omega
          case rel => exact ⟨i + 1, _, by go_num, by omega, H7⟩
        · have z1 : decide ((i : Int) < (m : Int)) = false := decide_eq_false (by omega)
          obtain rfl : i = m := by omega
          rw [List.take_of_length_le (by omega)] at H
          have hd := H.blk (b := D) (o := .deferred (some [])) (by simp)
          go_wp2_with fail
          refine ⟨by simp, .inl ⟨_, _, rfl, run_takeDeferred hd, ?_⟩⟩
          have hpD : D ≠ p := by omega
          have H1 := H.drop ((D, .deferred (some [])) :: (p, .cells #[.slice A l.length c, .map (some bm), vs'] 85) :: K) (fun q hq => by
            simp only [List.mem_cons] at hq ⊢
            rcases hq with h | h | h <;> simp [h])
          have H2 := (H1.set (o' := .deferred none) (.of_grown (grownBy_putObj' _ D (.deferred none))) (World.putObj_heap_same (lt_of_heap hd)) (fun q hq => by
            rcases List.mem_cons.1 hq with rfl | hq
            · exact Ne.symm hpD
            · have := hKb q hq; omega)).drop ((p, .cells #[.slice A l.length c, .map (some bm), vs'] 85) :: K) (fun q hq => List.mem_cons_of_mem _ hq)
          refine ⟨.tuple #[], ?_, vs', rfl, ?_⟩
          · simp [results, Try.f69, go_sem]
          · rw [HS' ()]
            exact H2.imp fun _ g => star_imp g fun _ g => star_tail g
  case stop =>
    rintro D cd pre W hD hpre hF hK
    exact hF.elim
end
end Go.Proofs.Ytibghcmkmbamjaa
