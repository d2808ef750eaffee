/- HeapPlays: the walk. -/
import Derived.Test.YtgleceijdedlkaaDoes14g
import Derived.Test.YtgleceijdedlkaaLive14
import Derived.Test.YtgleceijdedlkaaWorks14
import Derived.Test.YtgleceijdedlkaaCounts14
import Derived.Deep.RegionHeld3
namespace Go.Proofs.Ytgleceijdedlkaa
set_option linter.unusedSectionVars false
set_option linter.unusedVariables false
set_option linter.unusedSimpArgs false
open Go.RowKit
section
variable {w0 w : World} {K : List (Nat × Obj)} {A B C D R V X : Res}
theorem SepK.pull5 (h : SepK w0 w K (star A (star B (star C (star D (star R (star V X))))))) : SepK w0 w K (star V (star A (star B (star C (star D (star R X)))))) :=
  h.imp fun _ g => star_swap (star_imp g fun _ g => star_swap (star_imp g fun _ g => star_swap (star_imp g fun _ g => star_swap (star_imp g fun _ g => star_swap g))))
theorem SepK.push5 (h : SepK w0 w K (star V (star A (star B (star C (star D (star R X))))))) : SepK w0 w K (star A (star B (star C (star D (star R (star V X)))))) :=
  h.imp fun _ g => star_imp (star_swap g) fun _ g => star_imp (star_swap g) fun _ g => star_imp (star_swap g) fun _ g => star_imp (star_swap g) fun _ g => star_swap g
end
section
variable {w0 w : World} {K : List (Nat × Obj)} {B C D R S T X : Res} [Good T]
/-- The objects' row is drawn ahead. -/
theorem SepK.rotO0 (h : SepK w0 w K (star R (star S X))) : SepK w0 w K (star S (star R X)) := h.swap
theorem SepK.rotO (h : SepK w0 w K (star B (star R (star S X)))) : SepK w0 w K (star S (star B (star R X))) := h.pull2
omit [Good T] in
theorem SepK.cellO {e : TypeId} {bo oo n c : Nat} {os : List Ob} {j : Nat} {q : Int × Int} {nn kk : Int} (h : SepK w0 w K (star (rowR e 4 (.slice (some ⟨bo, oo, none⟩) n c) (os.map encO)) T)) (hj : os[j]? = some (q, (nn, kk))) : w.cell? ⟨bo, oo + j * 4 + 2, none⟩ = some (.int .i64 kk) ∧ w.cell? ⟨bo, oo + j * 4 + 3, none⟩ = some (.int .i64 nn) := by
  obtain ⟨A, c', e, hr⟩ := h.row
  cases e
  obtain ⟨b, off, e, -, -, h2, h3⟩ := rowcellO hr hj
  cases e
  exact ⟨h2, h3⟩
omit [Good T] in
theorem SepK.heldNd {x : Nat} {room : Int} {st : HS} (h : SepK w0 w K (star (heldR x room st) T)) : (st.V.map (·.1)).Nodup := by
  obtain ⟨N, B, l, O, e1, h1, -⟩ := h.get
  exact h1.tab.live.nodup ki
end
theorem Hp.clash {n : Nat} {room : Int} {st : HS} {us : List (Int × List UInt8)} {l : List (Int × Int)} (h : Hp n room st us l) (i1 : ∀ s, (aget st.V s).isSome = (aget st.sl s).isSome) {k : Nat} (hk : InsT us k) : atI l (k : Int) = -1 := by
  obtain ⟨-, g2, -, -⟩ := hk.low h.ps
  have e : aget st.sl (k : Int) = none := by
    rw [h.ps.get]
    exact (aget_none_iff _ _).2 g2
  have := i1 (k : Int)
  rw [e] at this
  rcases h.pl.at_ (k : Int) with ⟨-, ha⟩ | ⟨i, q, hv, -⟩
  · exact ha
  · rw [hv] at this; cases this
set_option maxRecDepth 100000 in
set_option maxHeartbeats 8000000 in
theorem plays14_walk (room : Int) (A : Option Addr) (c : Nat) (ls : List St14) (w : World) (hrm : okI room) (hl : RowsAt w A 8 (ls.map encS)) (hs : ∀ s ∈ ls, okS s) :
    Calls Try.prog 15 #[.int .i64 room, .slice A ls.length c] w fun e w' => e = .returned (.bool true) ∧ Upd [] w w' := by
  cases hv : heavyB ls with
  | true =>
    go_enter Try.func15, Try.ntmps15
    go_wp2_with (first | (go_at_call 27; (with_reducible refine (heavy_spec A c ls _ hl hs).mono ?_); rw [hv]; rintro e w1 ⟨rfl, u0⟩) | (go_at_call 28; (with_reducible refine (works14 _).mono ?_); rintro e w2 ⟨rfl, u1⟩))
    go_ret
    exact ⟨rfl, u0.trans u1⟩
  | false =>
  have hlen : ls.length ≤ 250 := by
    unfold heavyB at hv
    simp at hv
    omega
  by_cases hr : room < 0 ∨ 65536 < room
  · have hr2 : decide (room < 0) = true ∨ (decide (room < 0) = false ∧ decide (65536 < room) = true) := by
      by_cases h : room < 0
      · exact .inl (decide_eq_true h)
      · exact .inr ⟨decide_eq_false h, decide_eq_true (by omega)⟩
    rcases hr2 with y1 | ⟨y1, y2⟩
    all_goals
      go_enter Try.func15, Try.ntmps15
      go_wp2_with (first | (go_at_call 27; (with_reducible refine (heavy_spec A c ls _ hl hs).mono ?_); rw [hv]; rintro e w1 ⟨rfl, u0⟩) | (go_at_call 29; refine (NewHeap_no _ room hr).mono ?_; rintro e w2 ⟨rfl, u1⟩) | (go_at_call 28; (with_reducible refine (works14 _).mono ?_); rintro e w3 ⟨rfl, u2⟩))
      go_ret
      exact ⟨rfl, (u0.trans u1).trans u2⟩
  have y1 : decide (room < 0) = false := decide_eq_false (by omega)
  have y2 : decide (65536 < room) = false := decide_eq_false (by omega)
  have r0 : 0 ≤ room := by omega
  have r1 : room ≤ 65536 := by omega
  clear hr
  go_enter Try.func15, Try.ntmps15
  go_wp2_with fail
  refine (heavy_spec A c ls _ hl hs).mono ?_
  rw [hv]
  rintro e w1 ⟨rfl, u0⟩
  go_wp2_with fail
  refine (sNew ((SepK.start w).upd u0) room r0 r1).mono ?_
  rintro e w2 ⟨x, rfl, h1⟩
  go_wp2_with fail
  refine (gNew h1 room).mono ?_
  rintro e w3 ⟨g, s, t, rfl, d1, d2, d3, -, h2⟩
  have hd : g ≠ s ∧ g ≠ t ∧ s ≠ t := ⟨d1, d2, d3⟩
  have h3 := (((((h2.row0 30 2).swap.row0 30 2).row0 30 2).row0 101 2).row0 106 4).unrot4
  clear h1 h2 u0 y1 y2 d1 d2 d3
  go_wp2_with fail
  go_loopg [8, 9] ls.length (fun kq v8 v9 w' => ∃ (i : Nat) (al : List (Int × Int)) (vO vS vL vA : Value) (st : HS) (us : List (Int × List UInt8)) (l : List (Int × Int)), v9 = .int .i64 (i : Int) ∧ kq + i = ls.length ∧ SepK w w' (refK g s t room vO vS vL vA []) (star (heldR x room st) (refR vO vS vL vA st.ob us l st.L (star (rowR 30 2 v8 (al.map encH)) emp))) ∧ Hp i room st us l ∧ al.length ≤ i ∧ ∀ q ∈ al, okH q)
  case atStart => exact ⟨0, [], _, _, _, _, HS.nil, [], [], rfl, rfl, h3, Hp.start room r0, by simp, by simp⟩
  case round =>
    clear h3
    obtain ⟨i, al, vO, vS, vL, vA, st, us, l, rfl, hk, hS, hP, hal, hok⟩ := hrel
    obtain rfl : gk = ls.length - i := by omega
    by_cases hi : i < ls.length
    · have z4 : decide ((i : Int) < (ls.length : Int)) = true := decide_eq_true (by omega)
      obtain ⟨p, hx⟩ : ∃ x, ls[i]? = some x := ⟨ls[i], List.getElem?_eq_getElem hi⟩
      obtain ⟨b, off, rfl, hc⟩ := (hl.keep hS.u) i (encS p) (by rw [List.getElem?_map, hx]; rfl)
      have k0 : wr.cell? ⟨b, off + i * 8, none⟩ = some (.int .i64 p.d) := hc 0 _ rfl
      have k1 : wr.cell? ⟨b, off + i * 8 + 1, none⟩ = some (.int .i64 p.who) := hc 1 _ rfl
      have k2 : wr.cell? ⟨b, off + i * 8 + 2, none⟩ = some (.int .i64 p.kind) := hc 2 _ rfl
      have k3 : wr.cell? ⟨b, off + i * 8 + 3, none⟩ = some (.int .i64 p.pos) := hc 3 _ rfl
      have k4 : wr.cell? ⟨b, off + i * 8 + 4, none⟩ = some (.int .i64 p.n) := hc 4 _ rfl
      have k5 : wr.cell? ⟨b, off + i * 8 + 5, none⟩ = some (.string p.s) := hc 5 _ rfl
      have k6 : wr.cell? ⟨b, off + i * 8 + 6, none⟩ = some (.int .i64 p.h.1) := hc 6 _ rfl
      have k7 : wr.cell? ⟨b, off + i * 8 + 7, none⟩ = some (.int .u64 p.h.2) := hc 7 _ rfl
      have hpo := hs _ (List.mem_of_getElem? hx)
      clear hc hx
      have hX := hS.alloc (.cells #[.int .i64 p.d, .int .i64 p.who, .int .i64 p.kind, .int .i64 p.pos, .int .i64 p.n, .string p.s, .int .i64 p.h.1, .int .u64 p.h.2] 56)
      have lg0 := lt_of_heap (hS.blk (b := g) (o := gblk s t vO) (by simp))
      have ls0 := lt_of_heap (hS.blk (b := s) (o := tblk room vS) (by simp))
      have lt0 := lt_of_heap (hS.blk (b := t) (o := rblk vL vA) (by simp))
      clear hS
      obtain ⟨A8, c8, rfl, hrow⟩ := hX.rot4.imp (fun _ g => star_tail (star_tail (star_tail (star_tail (star_tail g))))) |>.row
      rw [List.length_map] at hX ⊢
      go_wp2_with fail
      refine (pick_spec A8 c8 al p _ hrow hpo (by omega)).mono ?_
      rintro e wa ⟨rfl, ua⟩
      have hq : okH (pickH al p) := pick_ok al p hok hpo
      have ha := (hX.upd ua).alloc (.cells #[.int .i64 (pickH al p).1, .int .u64 (pickH al p).2] 30)
      have hsz := ua.size
      simp only [alloc_size] at hsz
      generalize pickH al p = q at hq ha ⊢
      clear hX hrow ua k0 k1 k2 k3 k4 k5 k6 k7
      go_upto_region 15 with fail
      have hKd : ∀ y ∈ [(wa.heap.size, Obj.cells #[.int .i64 q.1, .int .u64 q.2] 30 (0, 0)), (wr.heap.size, Obj.cells #[.int .i64 p.d, .int .i64 p.who, .int .i64 p.kind, .int .i64 p.pos, .int .i64 p.n, .string p.s, .int .i64 p.h.1, .int .u64 p.h.2] 56 (0, 0))], y.1 ≠ g ∧ y.1 ≠ s ∧ y.1 ≠ t := by
        intro y hy
        simp at hy
        rcases hy with rfl | rfl
        · exact ⟨by simp only; omega, by simp only; omega, by simp only; omega⟩
        · exact ⟨by simp only; omega, by simp only; omega, by simp only; omega⟩
      clear hsz lg0 ls0 lt0
      have h0 := ha.drop (refK g s t room vO vS vL vA [(wa.heap.size, .cells #[.int .i64 q.1, .int .u64 q.2] 30 (0, 0)), (wr.heap.size, .cells #[.int .i64 p.d, .int .i64 p.who, .int .i64 p.kind, .int .i64 p.pos, .int .i64 p.n, .string p.s, .int .i64 p.h.1, .int .u64 p.h.2] 56 (0, 0))]) (by intro p hp; simp at hp ⊢; rcases hp with h | h | h | h | h <;> simp [h])
      clear ha
      generalize wa.alloc (.cells #[.int .i64 q.1, .int .u64 q.2] 30) = wb at h0 ⊢
      generalize wa.heap.size = b11 at h0 hKd ⊢
      generalize wr.heap.size = b10 at h0 hKd ⊢
      have f10 := h0.blk (b := b10) (o := .cells #[.int .i64 p.d, .int .i64 p.who, .int .i64 p.kind, .int .i64 p.pos, .int .i64 p.n, .string p.s, .int .i64 p.h.1, .int .u64 p.h.2] 56 (0, 0)) (by simp)
      have c0 := cell_of f10 0
      simp only [List.getElem?_toArray, List.getElem?_cons_zero, List.getElem?_cons_succ] at c0
      go_upto_if 69 with fail
      clear f10 c0
      go_cut [8, 12, 13, 14, 15] (fun v8 _ _ _ _ w' => ∃ (q : Int × Int) (al : List (Int × Int)) (vO vS vL vA : Value) (st : HS) (us : List (Int × List UInt8)) (l : List (Int × Int)), SepK w w' (refK g s t room vO vS vL vA [(b11, .cells #[.int .i64 q.1, .int .u64 q.2] 30 (0, 0))]) (star (heldR x room st) (refR vO vS vL vA st.ob us l st.L (star (rowR 30 2 v8 (al.map encH)) emp))) ∧ Hp (i + 1) room st us l ∧ al.length ≤ i + 1 ∧ (∀ q ∈ al, okH q) ∧ okH q)
      case first => as_aux_lemma =>
        have hol := hP.ol
        have hul := hP.ps.len
        have hll := hP.pl.len
        have hla := hP.pl.llen
        have hlo := hP.ps.lo
        have hle := hP.ps.le
        have hsl := hP.ps.slen
        have f10 := h0.blk (b := b10) (o := .cells #[.int .i64 p.d, .int .i64 p.who, .int .i64 p.kind, .int .i64 p.pos, .int .i64 p.n, .string p.s, .int .i64 p.h.1, .int .u64 p.h.2] 56 (0, 0)) (by simp)
        have c0 := cell_of f10 0
        have c2 := cell_of f10 2
        have c4 := cell_of f10 4
        simp only [List.getElem?_toArray, List.getElem?_cons_zero, List.getElem?_cons_succ] at c0 c2 c4
        by_cases dd : p.d = 0
        · have z2 : (p.d == 0) = true := by simpa using dd
          clear dd
          cases hn : okc p.n with
          | false =>
            go_wp2_with fail
            refine (sMake_arg h0 p.kind p.n hn).mono ?_
            rintro e wc ⟨rfl, h1⟩
            have h2 := h1.alloc (.cells #[.int .i64 0, .int .u64 0] 30)
            clear f10 c0 c2 c4
            have f10 := h1.blk (b := b10) (o := .cells #[.int .i64 p.d, .int .i64 p.who, .int .i64 p.kind, .int .i64 p.pos, .int .i64 p.n, .string p.s, .int .i64 p.h.1, .int .u64 p.h.2] 56 (0, 0)) (by simp)
            have c2 := cell_of f10 2
            have c4 := cell_of f10 4
            have l10 := lt_of_heap f10
            simp only [List.getElem?_toArray, List.getElem?_cons_zero, List.getElem?_cons_succ] at c2 c4
            go_wp2_with fail
            refine (gMake_arg (g := g) (s := s) (t := t) (vO := vO) h2 (by simp) p.kind p.n hn).mono ?_
            rintro e wd ⟨rfl, h3⟩
            have f12 := h3.blk List.mem_cons_self
            have e0 := cell_of f12 0
            have e1 := cell_of f12 1
            have l12 := lt_of_heap f12
            simp only [List.getElem?_toArray, List.getElem?_cons_zero, List.getElem?_cons_succ] at e0 e1
            have hne := fun w => neq30 0 0 0 0 w
            simp only [decide_true, Bool.not_true] at hne
            go_wp2_with fail
            go_meet
            case rel => exact ⟨q, al, vO, vS, vL, vA, st, us, l, (h3.alloc _).drop _ (by intro p hp; simp at hp ⊢; rcases hp with h | h | h | h <;> simp [h]), hP.more, by omega, hok, hq⟩
          | true =>
            by_cases hru : st.used + cls p.n ≤ room
            · go_wp2_with fail
              refine (sMake_ok h0 p.kind p.n hn hru hlo (by omega) (by omega)).mono ?_
              rintro e wc ⟨k, ⟨rfl, p1, p2⟩, h1⟩
              have hkq : okH ((k : Int), genOf st.L k) := h1.okH (y := (1, p.kind)) (by simp [HS.made, aget_aput])
              have i1 := h0.inv1
              have i2 := h0.inv2
              have huse := hP.ps.use
              have hbb : ∀ y ∈ us, y.2.length ≤ 1000 := fun y hy => by have := hP.ps.bd hy; omega
              have lg := lt_of_heap (h1.blk (b := g) (o := gblk s t vO) (by simp))
              have ls' := lt_of_heap (h1.blk (b := s) (o := tblk room vS) (by simp))
              have lt' := lt_of_heap (h1.blk (b := t) (o := rblk vL vA) (by simp))
              have l11 := lt_of_heap (h1.blk (b := b11) (o := .cells #[.int .i64 q.1, .int .u64 q.2] 30 (0, 0)) (by simp))
              have hKd' : ∀ y ∈ [(wc.heap.size, Obj.cells #[.int .i64 (k : Int), .int .u64 (genOf st.L k)] 30 (0, 0)), (b11, Obj.cells #[.int .i64 q.1, .int .u64 q.2] 30 (0, 0)), (b10, Obj.cells #[.int .i64 p.d, .int .i64 p.who, .int .i64 p.kind, .int .i64 p.pos, .int .i64 p.n, .string p.s, .int .i64 p.h.1, .int .u64 p.h.2] 56 (0, 0))], y.1 ≠ g ∧ y.1 ≠ s ∧ y.1 ≠ t := fun y hy => by
                rcases List.mem_cons.1 hy with rfl | hy
                · exact ⟨by simp only; omega, by simp only; omega, by simp only; omega⟩
                · exact hKd y hy
              have h2 := (h1.alloc (.cells #[.int .i64 (k : Int), .int .u64 (genOf st.L k)] 30)).rot4.drop (refK g s t room vO vS vL vA [(wc.heap.size, .cells #[.int .i64 (k : Int), .int .u64 (genOf st.L k)] 30 (0, 0)), (b11, .cells #[.int .i64 q.1, .int .u64 q.2] 30 (0, 0)), (b10, .cells #[.int .i64 p.d, .int .i64 p.who, .int .i64 p.kind, .int .i64 p.pos, .int .i64 p.n, .string p.s, .int .i64 p.h.1, .int .u64 p.h.2] 56 (0, 0))]) (by intro p hp; simp at hp ⊢; rcases hp with h | h | h | h | h | h <;> simp [h])
              clear f10 c0 c2 c4
              have f10 := h1.blk (b := b10) (o := .cells #[.int .i64 p.d, .int .i64 p.who, .int .i64 p.kind, .int .i64 p.pos, .int .i64 p.n, .string p.s, .int .i64 p.h.1, .int .u64 p.h.2] 56 (0, 0)) (by simp)
              have c2 := cell_of f10 2
              have c4 := cell_of f10 4
              have l10 := lt_of_heap f10
              simp only [List.getElem?_toArray, List.getElem?_cons_zero, List.getElem?_cons_succ] at c2 c4
              clear h0 h1 f10 lg ls' lt'
              have h1112 : b11 ≠ wc.heap.size := by omega
              go_wp2_with fail
              refine (gMake_ok h2 hd hKd' p.kind p.n hn (by omega) (by omega) (by omega) (by omega) (by omega) hbb (fun k' hk' => hP.clash i1 hk')).mono ?_
              rintro e wd ⟨vO', vS', vL', vA', k', m, hk', hm, rfl, h3⟩
              have hkk := hP.ps.same hk' p1 p2
              subst hkk
              obtain ⟨-, e2, e3, hP'⟩ := hP.made i1 i2 hk' hm p1 p2 p.n p.kind hn hru
              clear h2 c2 c4 l10 huse hbb hKd' l11 hk' hm i1 i2 p1 p2 hn hru
              rw [← e2, ← e3] at h3
              clear e2 e3
              generalize st.made k' p.n p.kind = st' at h3 hP'
              generalize genOf st.L (k' : Int) = gg at hkq h3 hP' ⊢
              generalize (us.take k' ++ ((k' : Int), List.replicate p.n.toNat (0 : UInt8)) :: us.drop k') = us' at h3 hP'
              generalize (l.take m ++ ((k' : Int), gg) :: l.drop m) = l' at h3 hP'
              generalize wc.heap.size = b12 at h3 h1112 ⊢
              have h4 := (h3.pull5.alloc (.cells #[.int .i64 (k' : Int), .int .u64 gg] 30)).alloc (.cells #[.int .i64 (k' : Int), .int .u64 gg] 30)
              simp only [alloc_size] at h4
              have f12 := h3.blk (b := b12) (o := .cells #[.int .i64 (k' : Int), .int .u64 gg] 30 (0, 0)) (by simp)
              have e0 := cell_of f12 0
              have e1 := cell_of f12 1
              have l12 := lt_of_heap f12
              simp only [List.getElem?_toArray, List.getElem?_cons_zero, List.getElem?_cons_succ] at e0 e1
              have hne := fun w => neq30 (k' : Int) gg (k' : Int) gg w
              simp only [decide_true, Bool.not_true] at hne
              obtain ⟨i0, hi0, hz0, hz1, hz2⟩ := info_parts info30
              have hnew : ∀ j u, ([.int .i64 (k' : Int), .int .u64 gg] : List Value)[j]? = some u → ((wd.alloc (.cells #[.int .i64 (k' : Int), .int .u64 gg] 30)).alloc (.cells #[.int .i64 (k' : Int), .int .u64 gg] 30)).cell? ((⟨wd.heap.size + 1, 0, none⟩ : Addr).add j) = some u := by
                have := cell_two_new (wd.alloc (.cells #[.int .i64 (k' : Int), .int .u64 gg] 30)) (.int .i64 (k' : Int)) (.int .u64 gg) 30
                rwa [alloc_size] at this
              clear h3 f12
              go_wp2_with (at_builtin; refine wl_append rfl _ _ 54 rfl 30 i0 (.agg #[.int .i64 0, .int .u64 0]) 2 16 Try.underlying54 hi0 hz0 hz1 hz2 rfl (by decide) _ _ rfl h4 ⟨wd.heap.size + 1, 0, none⟩ 1 [.int .i64 (k' : Int), .int .u64 gg] rfl rfl hnew (fun x hx => by simp at hx; rcases hx with rfl | rfl <;> rfl) (by unfold maxLen; simp; omega) (by simp; omega) ?_; intro v' w5 h8; clear e0 e1 l12; have f12 := h8.blk (b := b12) (o := .cells #[.int .i64 (k' : Int), .int .u64 gg] 30 (0, 0)) (by simp); have e0 := cell_of f12 0; have e1 := cell_of f12 1; have f11 := h8.blk (b := b11) (o := .cells #[.int .i64 q.1, .int .u64 q.2] 30 (0, 0)) (by simp); have t0 := cell_of f11 0; have t1 := cell_of f11 1; have ff0 := frozen_of f11 0; have ff1 := frozen_of f11 1; have l11 := lt_of_heap f11; simp only [List.getElem?_toArray, List.getElem?_cons_zero, List.getElem?_cons_succ] at e0 e1 t0 t1)
              have h9 := h8.drop ((b11, Obj.cells #[.int .i64 q.1, .int .u64 q.2] 30 (0, 0)) :: refK g s t room vO' vS' vL' vA' []) (by intro p hp; simp at hp ⊢; rcases hp with h | h | h | h <;> simp [h])
              have h10 := h9.set (o' := .cells #[.int .i64 (k' : Int), .int .u64 gg] 30 (0, 0)) (((Upd.refl [b11] _).setCell ⟨b11, 0, none⟩ (.int .i64 (k' : Int)) (.inl (by simp))).setCell ⟨b11, 1, none⟩ (.int .u64 gg) (.inl (by simp))) (by simpa using heap_setCell_same (heap_setCell_same f11 0 (.int .i64 (k' : Int))) 1 (.int .u64 gg)) (by intro y hy; have := hKd (b11, Obj.cells #[.int .i64 q.1, .int .u64 q.2] 30 (0, 0)) (by simp); simp only at this; simp at hy; rcases hy with rfl | rfl | rfl; exact Ne.symm this.1; exact Ne.symm this.2.1; exact Ne.symm this.2.2)
              have h11 := (h10.push5.unrot4).drop (refK g s t room vO' vS' vL' vA' [(b11, .cells #[.int .i64 (k' : Int), .int .u64 gg] 30 (0, 0))]) (by intro p hp; simp at hp ⊢; rcases hp with h | h | h | h <;> simp [h])
              have eal : al.map encH ++ [[.int .i64 (k' : Int), .int .u64 gg]] = (al ++ [((k' : Int), gg)]).map encH := by simp [encH]
              rw [eal] at h11
              go_meet
              case rel =>
                refine ⟨((k' : Int), gg), al ++ [((k' : Int), gg)], vO', vS', vL', vA', st', us', l', h11, hP', by simp; omega, fun y hy => ?_, hkq⟩
                rcases List.mem_append.1 hy with hy | hy
                · exact hok y hy
                · obtain rfl := List.mem_singleton.1 hy
                  exact hkq
            · go_wp2_with fail
              refine (sMake_full h0 p.kind p.n hn (by omega) hlo (by omega)).mono ?_
              rintro e wc ⟨rfl, h1⟩
              have h2 := h1.alloc (.cells #[.int .i64 0, .int .u64 0] 30)
              clear f10 c0 c2 c4
              have f10 := h1.blk (b := b10) (o := .cells #[.int .i64 p.d, .int .i64 p.who, .int .i64 p.kind, .int .i64 p.pos, .int .i64 p.n, .string p.s, .int .i64 p.h.1, .int .u64 p.h.2] 56 (0, 0)) (by simp)
              have c2 := cell_of f10 2
              have c4 := cell_of f10 4
              have l10 := lt_of_heap f10
              simp only [List.getElem?_toArray, List.getElem?_cons_zero, List.getElem?_cons_succ] at c2 c4
              have huse := hP.ps.use
              go_wp2_with fail
              refine (gMake_full (g := g) (s := s) (t := t) (vO := vO) (room := room) (us := us) h2.pull2 (by simp) (by simp) p.kind p.n hn (by omega) (by omega) (fun y hy => by have := hP.ps.bd hy; omega)).mono ?_
              rintro e wd ⟨rfl, h3⟩
              clear huse
              have f12 := h3.blk List.mem_cons_self
              have e0 := cell_of f12 0
              have e1 := cell_of f12 1
              have l12 := lt_of_heap f12
              simp only [List.getElem?_toArray, List.getElem?_cons_zero, List.getElem?_cons_succ] at e0 e1
              have hne := fun w => neq30 0 0 0 0 w
              simp only [decide_true, Bool.not_true] at hne
              go_wp2_with fail
              go_meet
              case rel => exact ⟨q, al, vO, vS, vL, vA, st, us, l, (h3.push2.alloc _).drop _ (by intro p hp; simp at hp ⊢; rcases hp with h | h | h | h <;> simp [h]), hP.more, by omega, hok, hq⟩
        · have z2 : (p.d == 0) = false := by simpa using dd
          clear dd
          have f11 := h0.blk (b := b11) (o := .cells #[.int .i64 q.1, .int .u64 q.2] 30 (0, 0)) (by simp)
          have e0 := cell_of f11 0
          have e1 := cell_of f11 1
          have c1 := cell_of f10 1
          have c3 := cell_of f10 3
          have c5 := cell_of f10 5
          have c6 := cell_of f10 6
          have c7 := cell_of f10 7
          simp only [List.getElem?_toArray, List.getElem?_cons_zero, List.getElem?_cons_succ] at e0 e1 c1 c3 c5 c6 c7
          clear f10 f11
          go_wp2_with fail
          refine (does14 h0 hd hKd hP (by omega) r1 q hq p hpo).mono ?_
          rintro e wc ⟨rfl, vO', vS', vL', vA', st', us', l', h1, hP'⟩
          clear e0 e1 c0 c1 c2 c3 c4 c5 c6 c7
          go_wp2_with fail
          go_meet
          case rel => exact ⟨q, al, vO', vS', vL', vA', st', us', l', h1.drop _ (by intro p hp; simp at hp ⊢; rcases hp with h | h | h | h <;> simp [h]), hP', by omega, hok, hq⟩
      case rest => as_aux_lemma =>
        clear h0 hKd hP hal hok hq hpo
        obtain ⟨q, al, vO, vS, vL, vA, st, us, l, h0, hP, hal, hok, hq⟩ := hcut
        have hol := hP.ol
        have hul := hP.ps.len
        have hll := hP.pl.len
        have hvl := hP.pl.vlen
        have huse : Unit → st.used = usedOf us := fun _ => hP.ps.use
        have hbb : ∀ y ∈ us, y.2.length ≤ 1000 := fun y hy => by have := hP.ps.bd hy; omega
        have hlive := hP.pl.live h0.heldNd
        obtain ⟨AL, cL, rfl, -⟩ := h0.pull3.row
        rw [List.length_map] at h0
        obtain ⟨nn, kk, bi, hC1, hC2, hcase⟩ : ∃ (nn kk : Int) (bi : Bool), (∀ w', SepK w w' (refK g s t room vO vS (.slice AL l.length cL) vA [(b11, .cells #[.int .i64 q.1, .int .u64 q.2] 30 (0, 0))]) (star (heldR x room st) (refR vO vS (.slice AL l.length cL) vA st.ob us l st.L (star (rowR 30 2 u8 (al.map encH)) emp))) → Calls Try.prog 41 #[.pointer (some ⟨x, 0, none⟩), .agg #[.int .i64 q.1, .int .u64 q.2]] w' fun e w2 => e = .returned (.tuple #[.int .i64 nn, .bool bi]) ∧ SepK w w2 (refK g s t room vO vS (.slice AL l.length cL) vA [(b11, .cells #[.int .i64 q.1, .int .u64 q.2] 30 (0, 0))]) (star (heldR x room st) (refR vO vS (.slice AL l.length cL) vA st.ob us l st.L (star (rowR 30 2 u8 (al.map encH)) emp)))) ∧ (∀ w', SepK w w' (refK g s t room vO vS (.slice AL l.length cL) vA [(b11, .cells #[.int .i64 q.1, .int .u64 q.2] 30 (0, 0))]) (star (heldR x room st) (refR vO vS (.slice AL l.length cL) vA st.ob us l st.L (star (rowR 30 2 u8 (al.map encH)) emp))) → Calls Try.prog 35 #[.pointer (some ⟨x, 0, none⟩), .agg #[.int .i64 q.1, .int .u64 q.2]] w' fun e w2 => e = .returned (.tuple #[.int .i64 kk, .bool bi]) ∧ SepK w w2 (refK g s t room vO vS (.slice AL l.length cL) vA [(b11, .cells #[.int .i64 q.1, .int .u64 q.2] 30 (0, 0))]) (star (heldR x room st) (refR vO vS (.slice AL l.length cL) vA st.ob us l st.L (star (rowR 30 2 u8 (al.map encH)) emp)))) ∧ ((bi = false ∧ posO st.ob q = -1) ∨ (bi = true ∧ ∃ j : Nat, posO st.ob q = (j : Int) ∧ st.ob[j]? = some (q, (nn, kk)))) := by
          rcases hP.pos q with ⟨ho, hat⟩ | ⟨j, cc, kk, ho, hat, hj⟩
          · exact ⟨0, 0, false, fun w' h => sCount_no h q.1 q.2 hq ho, fun w' h => sKind_no h q.1 q.2 hq ho, .inl ⟨rfl, hat⟩⟩
          · exact ⟨cc, kk, true, fun w' h => sCount_ok h q.1 q.2 cc kk ho, fun w' h => sKind_ok h q.1 q.2 cc kk ho, .inr ⟨rfl, j, hat, hj⟩⟩
        have f11 := h0.blk (b := b11) (o := .cells #[.int .i64 q.1, .int .u64 q.2] 30 (0, 0)) (by simp); have e0 := cell_of f11 0; have e1 := cell_of f11 1; have l11 := lt_of_heap f11; simp only [List.getElem?_toArray, List.getElem?_cons_zero, List.getElem?_cons_succ] at e0 e1
        go_wp2_with fail
        refine (hC1 _ h0).mono ?_
        rintro e wc ⟨rfl, h1⟩
        clear f11 e0 e1 l11
        have f11 := h1.blk (b := b11) (o := .cells #[.int .i64 q.1, .int .u64 q.2] 30 (0, 0)) (by simp); have e0 := cell_of f11 0; have e1 := cell_of f11 1; have l11 := lt_of_heap f11; simp only [List.getElem?_toArray, List.getElem?_cons_zero, List.getElem?_cons_succ] at e0 e1
        go_wp2_with fail
        refine (hC2 _ h1).mono ?_
        rintro e wd ⟨rfl, h2⟩
        clear f11 e0 e1 l11
        have f11 := h2.blk (b := b11) (o := .cells #[.int .i64 q.1, .int .u64 q.2] 30 (0, 0)) (by simp); have e0 := cell_of f11 0; have e1 := cell_of f11 1; have l11 := lt_of_heap f11; simp only [List.getElem?_toArray, List.getElem?_cons_zero, List.getElem?_cons_succ] at e0 e1
        go_wp2_with fail
        refine (gAt (g := g) (s := s) (t := t) (vO := vO) h2.rot4 (by simp) q (by omega)).mono ?_
        rintro e we ⟨rfl, u3⟩
        have h3 := h2.upd u3
        clear h0 h1 h2 u3 hC1 hC2 f11 e0 e1 l11
        have ylen : ((l.length : Int) != (l.length : Int)) = false := by simp
        have yroom : (room != room) = false := by simp
        have yused : (st.used != st.used) = false := by simp
        generalize posO st.ob q = z at hcase ⊢
        go_upto_region 28 with fail
        go_cut [189] (fun v189 w' => v189 = .bool false ∧ SepK w w' (refK g s t room vO vS (.slice AL l.length cL) vA [(b11, .cells #[.int .i64 q.1, .int .u64 q.2] 30 (0, 0))]) (star (heldR x room st) (refR vO vS (.slice AL l.length cL) vA st.ob us l st.L (star (rowR 30 2 u8 (al.map encH)) emp))))
        case first =>
          rcases hcase with ⟨rfl, rfl⟩ | ⟨rfl, j, rfl, hj⟩
          · as_aux_lemma =>
            have fg := h3.blk (b := g) (o := gblk s t vO) (by simp); have c0 := cell_of fg 0; have c1 := cell_of fg 1; have lg := lt_of_heap fg; have ft := h3.blk (b := t) (o := rblk (.slice AL l.length cL) vA) (by simp); have d0 := cell_of ft 0; have lt := lt_of_heap ft
            have hh := h3.upd (Upd.refl [] _).drew
            clear fg c0 c1 lg ft d0 lt; have fg := hh.blk (b := g) (o := gblk s t vO) (by simp); have c0 := cell_of fg 0; have c1 := cell_of fg 1; have lg := lt_of_heap fg; have ft := hh.blk (b := t) (o := rblk (.slice AL l.length cL) vA) (by simp); have d0 := cell_of ft 0; have lt := lt_of_heap ft; simp only [List.getElem?_toArray, List.getElem?_cons_zero, List.getElem?_cons_succ] at c0 c1 d0
            refine wp_region_held_drew (S := fun w' => w'.cell? ⟨g, 0, none⟩ = some (.pointer (some ⟨s, 0, none⟩)) ∧ w'.cell? ⟨g, 1, none⟩ = some (.pointer (some ⟨t, 0, none⟩)) ∧ w'.cell? ⟨t, 0, none⟩ = some (.slice AL l.length cL)) (by kernel_rfl) (by exact ⟨c0, c1, d0⟩) (fun hHeld => ?_)
            refine wpAnyH_take (i := 0) (oi := ⟨some 124, _, _, _, _, _⟩) (v := ?vn1) rfl (by kernel_rfl) (by kernel_rfl) (by kernel_rfl) (fun _ _ _ h => h) (Or.inl ⟨by rfl, ?hyn1⟩) hHeld ?restn1
            case hyn1 => (intro wq hSw; (try dsimp only at hSw); go_simp; (try with_reducible rfl))
            try simp only [Act.put, List.setIfInBounds_toArray, List.set_cons_zero, List.set_cons_succ]
            refine wpAnyH_take (i := 1) (oi := ⟨some 125, _, _, _, _, _⟩) (v := ?vn2) rfl (by kernel_rfl) (by kernel_rfl) (by kernel_rfl) (fun _ _ _ h => h) (Or.inl ⟨by rfl, ?hyn2⟩) hHeld ?restn2
            case hyn2 => (intro wq hSw; (try dsimp only at hSw); go_simp; (try with_reducible rfl))
            try simp only [Act.put, List.setIfInBounds_toArray, List.set_cons_zero, List.set_cons_succ]
            refine wpAnyH_take (i := 2) (oi := ⟨some 126, _, _, _, _, _⟩) (v := ?vn3) rfl (by kernel_rfl) (by kernel_rfl) (by kernel_rfl) (fun _ _ _ h => h) (Or.inl ⟨by rfl, ?hyn3⟩) hHeld ?restn3
            case hyn3 => (intro wq hSw; (try dsimp only at hSw); go_simp; (try with_reducible rfl))
            try simp only [Act.put, List.setIfInBounds_toArray, List.set_cons_zero, List.set_cons_succ]
            refine wpAnyH_take (i := 3) (oi := ⟨some 127, _, _, _, _, _⟩) (v := ?vn4) rfl (by kernel_rfl) (by kernel_rfl) (by kernel_rfl) (fun _ _ _ h => h) (Or.inl ⟨by rfl, ?hyn4⟩) hHeld ?restn4
            case hyn4 => (intro wq hSw; (try dsimp only at hSw); go_simp; (try with_reducible rfl))
            try simp only [Act.put, List.setIfInBounds_toArray, List.set_cons_zero, List.set_cons_succ]
            refine wpAnyH_take (i := 4) (oi := ⟨some 128, _, _, _, _, _⟩) (v := ?vn5) rfl (by kernel_rfl) (by kernel_rfl) (by kernel_rfl) (fun _ _ _ h => h) (Or.inl ⟨by rfl, ?hyn5⟩) hHeld ?restn5
            case hyn5 => (intro wq hSw; (try dsimp only at hSw); go_simp; (try with_reducible rfl))
            try simp only [Act.put, List.setIfInBounds_toArray, List.set_cons_zero, List.set_cons_succ]
            refine wpAnyH_take (i := 5) (oi := ⟨some 129, _, _, _, _, _⟩) (v := ?vn6) rfl (by kernel_rfl) (by kernel_rfl) (by kernel_rfl) (fun _ _ _ h => h) (Or.inl ⟨by rfl, ?hyn6⟩) hHeld ?restn6
            case hyn6 => (intro wq hSw; (try dsimp only at hSw); go_simp; (try with_reducible rfl))
            try simp only [Act.put, List.setIfInBounds_toArray, List.set_cons_zero, List.set_cons_succ]
            refine wpAnyH_take (i := 6) (oi := ⟨some 130, _, _, _, _, _⟩) (v := ?vn7) rfl (by kernel_rfl) (by kernel_rfl) (by kernel_rfl) (fun _ _ _ h => h) (Or.inl ⟨by rfl, ?hyn7⟩) hHeld ?restn7
            case hyn7 => (intro wq hSw; (try dsimp only at hSw); go_simp; (try with_reducible rfl))
            try simp only [Act.put, List.setIfInBounds_toArray, List.set_cons_zero, List.set_cons_succ]
            refine wpAnyH_take (i := 7) (oi := ⟨some 131, _, _, _, _, _⟩) (v := ?vn8) rfl (by kernel_rfl) (by kernel_rfl) (by kernel_rfl) (fun _ _ _ h => h) (Or.inl ⟨by rfl, ?hyn8⟩) hHeld ?restn8
            case hyn8 => (intro wq hSw; (try dsimp only at hSw); go_simp; (try with_reducible rfl))
            try simp only [Act.put, List.setIfInBounds_toArray, List.set_cons_zero, List.set_cons_succ]
            refine wpAnyH_take (i := 8) (oi := ⟨some 132, _, _, _, _, _⟩) (v := ?vn9) rfl (by kernel_rfl) (by kernel_rfl) (by kernel_rfl) (fun _ _ _ h => h) (Or.inl ⟨by rfl, ?hyn9⟩) hHeld ?restn9
            case hyn9 => (intro wq hSw; (try dsimp only at hSw); go_simp; (try with_reducible rfl))
            try simp only [Act.put, List.setIfInBounds_toArray, List.set_cons_zero, List.set_cons_succ]
            refine wpAnyH_take (i := 9) (oi := ⟨some 133, _, _, _, _, _⟩) (v := ?vn10) rfl (by kernel_rfl) (by kernel_rfl) (by kernel_rfl) (fun _ _ _ h => h) (Or.inl ⟨by rfl, ?hyn10⟩) hHeld ?restn10
            case hyn10 => (intro wq hSw; (try dsimp only at hSw); go_simp; (try with_reducible rfl))
            try simp only [Act.put, List.setIfInBounds_toArray, List.set_cons_zero, List.set_cons_succ]
            refine wpAnyH_take (i := 10) (oi := ⟨some 134, _, _, _, _, _⟩) (v := ?vn11) rfl (by kernel_rfl) (by kernel_rfl) (by kernel_rfl) (fun _ _ _ h => h) (Or.inl ⟨by rfl, ?hyn11⟩) hHeld ?restn11
            case hyn11 => (intro wq hSw; (try dsimp only at hSw); go_simp; (try with_reducible rfl))
            try simp only [Act.put, List.setIfInBounds_toArray, List.set_cons_zero, List.set_cons_succ]
            refine wpAnyH_take (i := 11) (oi := ⟨some 135, _, _, _, _, _⟩) (v := ?vn12) rfl (by kernel_rfl) (by kernel_rfl) (by kernel_rfl) (fun _ _ _ h => h) (Or.inl ⟨by rfl, ?hyn12⟩) hHeld ?restn12
            case hyn12 => (intro wq hSw; (try dsimp only at hSw); go_simp; (try with_reducible rfl))
            try simp only [Act.put, List.setIfInBounds_toArray, List.set_cons_zero, List.set_cons_succ]
            refine wpAnyH_take (i := 12) (oi := ⟨some 136, _, _, _, _, _⟩) (v := undef) rfl (by kernel_rfl) (by kernel_rfl) (by kernel_rfl) (fun _ _ _ h => h) (Or.inr ⟨by rfl, rfl⟩) hHeld ?_
            try simp only [Act.put, List.setIfInBounds_toArray, List.set_cons_zero, List.set_cons_succ]
            refine wpAnyH_take (i := 13) (oi := ⟨some 137, _, _, _, _, _⟩) (v := undef) rfl (by kernel_rfl) (by kernel_rfl) (by kernel_rfl) (fun _ _ _ h => h) (Or.inr ⟨by rfl, rfl⟩) hHeld ?_
            try simp only [Act.put, List.setIfInBounds_toArray, List.set_cons_zero, List.set_cons_succ]
            refine wpAnyH_take (i := 14) (oi := ⟨some 138, _, _, _, _, _⟩) (v := undef) rfl (by kernel_rfl) (by kernel_rfl) (by kernel_rfl) (fun _ _ _ h => h) (Or.inr ⟨by rfl, rfl⟩) hHeld ?_
            try simp only [Act.put, List.setIfInBounds_toArray, List.set_cons_zero, List.set_cons_succ]
            refine wpAnyH_take (i := 15) (oi := ⟨some 139, _, _, _, _, _⟩) (v := undef) rfl (by kernel_rfl) (by kernel_rfl) (by kernel_rfl) (fun _ _ _ h => h) (Or.inr ⟨by rfl, rfl⟩) hHeld ?_
            try simp only [Act.put, List.setIfInBounds_toArray, List.set_cons_zero, List.set_cons_succ]
            refine wpAnyH_take (i := 16) (oi := ⟨some 140, _, _, _, _, _⟩) (v := undef) rfl (by kernel_rfl) (by kernel_rfl) (by kernel_rfl) (fun _ _ _ h => h) (Or.inr ⟨by rfl, rfl⟩) hHeld ?_
            try simp only [Act.put, List.setIfInBounds_toArray, List.set_cons_zero, List.set_cons_succ]
            refine wpAnyH_take (i := 17) (oi := ⟨some 141, _, _, _, _, _⟩) (v := undef) rfl (by kernel_rfl) (by kernel_rfl) (by kernel_rfl) (fun _ _ _ h => h) (Or.inr ⟨by rfl, rfl⟩) hHeld ?_
            try simp only [Act.put, List.setIfInBounds_toArray, List.set_cons_zero, List.set_cons_succ]
            refine wpAnyH_take (i := 18) (oi := ⟨some 142, _, _, _, _, _⟩) (v := undef) rfl (by kernel_rfl) (by kernel_rfl) (by kernel_rfl) (fun _ _ _ h => h) (Or.inr ⟨by rfl, rfl⟩) hHeld ?_
            try simp only [Act.put, List.setIfInBounds_toArray, List.set_cons_zero, List.set_cons_succ]
            refine wpAnyH_take (i := 19) (oi := ⟨some 143, _, _, _, _, _⟩) (v := undef) rfl (by kernel_rfl) (by kernel_rfl) (by kernel_rfl) (fun _ _ _ h => h) (Or.inr ⟨by rfl, rfl⟩) hHeld ?_
            try simp only [Act.put, List.setIfInBounds_toArray, List.set_cons_zero, List.set_cons_succ]
            refine wpAnyH_take (i := 20) (oi := ⟨some 144, _, _, _, _, _⟩) (v := undef) rfl (by kernel_rfl) (by kernel_rfl) (by kernel_rfl) (fun _ _ _ h => h) (Or.inr ⟨by rfl, rfl⟩) hHeld ?_
            try simp only [Act.put, List.setIfInBounds_toArray, List.set_cons_zero, List.set_cons_succ]
            refine wpAnyH_take (i := 21) (oi := ⟨some 145, _, _, _, _, _⟩) (v := undef) rfl (by kernel_rfl) (by kernel_rfl) (by kernel_rfl) (fun _ _ _ h => h) (Or.inr ⟨by rfl, rfl⟩) hHeld ?_
            try simp only [Act.put, List.setIfInBounds_toArray, List.set_cons_zero, List.set_cons_succ]
            refine wpAnyH_take (i := 22) (oi := ⟨some 146, _, _, _, _, _⟩) (v := undef) rfl (by kernel_rfl) (by kernel_rfl) (by kernel_rfl) (fun _ _ _ h => h) (Or.inr ⟨by rfl, rfl⟩) hHeld ?_
            try simp only [Act.put, List.setIfInBounds_toArray, List.set_cons_zero, List.set_cons_succ]
            refine wpAnyH_take (i := 23) (oi := ⟨some 147, _, _, _, _, _⟩) (v := undef) rfl (by kernel_rfl) (by kernel_rfl) (by kernel_rfl) (fun _ _ _ h => h) (Or.inr ⟨by rfl, rfl⟩) hHeld ?_
            try simp only [Act.put, List.setIfInBounds_toArray, List.set_cons_zero, List.set_cons_succ]
            refine wpAnyH_take (i := 24) (oi := ⟨some 148, _, _, _, _, _⟩) (v := undef) rfl (by kernel_rfl) (by kernel_rfl) (by kernel_rfl) (fun _ _ _ h => h) (Or.inr ⟨by rfl, rfl⟩) hHeld ?_
            try simp only [Act.put, List.setIfInBounds_toArray, List.set_cons_zero, List.set_cons_succ]
            refine wpAnyH_take (i := 25) (oi := ⟨some 149, _, _, _, _, _⟩) (v := undef) rfl (by kernel_rfl) (by kernel_rfl) (by kernel_rfl) (fun _ _ _ h => h) (Or.inr ⟨by rfl, rfl⟩) hHeld ?_
            try simp only [Act.put, List.setIfInBounds_toArray, List.set_cons_zero, List.set_cons_succ]
            refine wpAnyH_take (i := 26) (oi := ⟨some 150, _, _, _, _, _⟩) (v := undef) rfl (by kernel_rfl) (by kernel_rfl) (by kernel_rfl) (fun _ _ _ h => h) (Or.inr ⟨by rfl, rfl⟩) hHeld ?_
            try simp only [Act.put, List.setIfInBounds_toArray, List.set_cons_zero, List.set_cons_succ]
            refine wpAnyH_take (i := 27) (oi := ⟨some 151, _, _, _, _, _⟩) (v := undef) rfl (by kernel_rfl) (by kernel_rfl) (by kernel_rfl) (fun _ _ _ h => h) (Or.inr ⟨by rfl, rfl⟩) hHeld ?_
            try simp only [Act.put, List.setIfInBounds_toArray, List.set_cons_zero, List.set_cons_succ]
            refine wpAnyH_take (i := 28) (oi := ⟨some 152, _, _, _, _, _⟩) (v := undef) rfl (by kernel_rfl) (by kernel_rfl) (by kernel_rfl) (fun _ _ _ h => h) (Or.inr ⟨by rfl, rfl⟩) hHeld ?_
            try simp only [Act.put, List.setIfInBounds_toArray, List.set_cons_zero, List.set_cons_succ]
            refine wpAnyH_take (i := 29) (oi := ⟨some 153, _, _, _, _, _⟩) (v := undef) rfl (by kernel_rfl) (by kernel_rfl) (by kernel_rfl) (fun _ _ _ h => h) (Or.inr ⟨by rfl, rfl⟩) hHeld ?_
            try simp only [Act.put, List.setIfInBounds_toArray, List.set_cons_zero, List.set_cons_succ]
            refine wpAnyH_take (i := 30) (oi := ⟨some 154, _, _, _, _, _⟩) (v := undef) rfl (by kernel_rfl) (by kernel_rfl) (by kernel_rfl) (fun _ _ _ h => h) (Or.inr ⟨by rfl, rfl⟩) hHeld ?_
            try simp only [Act.put, List.setIfInBounds_toArray, List.set_cons_zero, List.set_cons_succ]
            refine wpAnyH_take (i := 31) (oi := ⟨some 155, _, _, _, _, _⟩) (v := undef) rfl (by kernel_rfl) (by kernel_rfl) (by kernel_rfl) (fun _ _ _ h => h) (Or.inr ⟨by rfl, rfl⟩) hHeld ?_
            try simp only [Act.put, List.setIfInBounds_toArray, List.set_cons_zero, List.set_cons_succ]
            refine wpAnyH_take (i := 32) (oi := ⟨some 156, _, _, _, _, _⟩) (v := undef) rfl (by kernel_rfl) (by kernel_rfl) (by kernel_rfl) (fun _ _ _ h => h) (Or.inr ⟨by rfl, rfl⟩) hHeld ?_
            try simp only [Act.put, List.setIfInBounds_toArray, List.set_cons_zero, List.set_cons_succ]
            refine wpAnyH_take (i := 33) (oi := ⟨some 157, _, _, _, _, _⟩) (v := undef) rfl (by kernel_rfl) (by kernel_rfl) (by kernel_rfl) (fun _ _ _ h => h) (Or.inr ⟨by rfl, rfl⟩) hHeld ?_
            try simp only [Act.put, List.setIfInBounds_toArray, List.set_cons_zero, List.set_cons_succ]
            refine wpAnyH_take (i := 34) (oi := ⟨some 158, _, _, _, _, _⟩) (v := ?vn13) rfl (by kernel_rfl) (by kernel_rfl) (by kernel_rfl) (fun _ _ _ h => h) (Or.inl ⟨by rfl, ?hyn13⟩) hHeld ?restn13
            case hyn13 => (intro wq hSw; (try dsimp only at hSw); go_simp; (try with_reducible rfl))
            try simp only [Act.put, List.setIfInBounds_toArray, List.set_cons_zero, List.set_cons_succ]
            refine wpAnyH_take (i := 35) (oi := ⟨some 159, _, _, _, _, _⟩) (v := ?vn14) rfl (by kernel_rfl) (by kernel_rfl) (by kernel_rfl) (fun _ _ _ h => h) (Or.inl ⟨by rfl, ?hyn14⟩) hHeld ?restn14
            case hyn14 => (intro wq hSw; (try dsimp only at hSw); go_simp; (try with_reducible rfl))
            try simp only [Act.put, List.setIfInBounds_toArray, List.set_cons_zero, List.set_cons_succ]
            refine wpAnyH_take (i := 36) (oi := ⟨some 160, _, _, _, _, _⟩) (v := ?vn15) rfl (by kernel_rfl) (by kernel_rfl) (by kernel_rfl) (fun _ _ _ h => h) (Or.inl ⟨by rfl, ?hyn15⟩) hHeld ?restn15
            case hyn15 => (intro wq hSw; (try dsimp only at hSw); go_simp; (try with_reducible rfl))
            try simp only [Act.put, List.setIfInBounds_toArray, List.set_cons_zero, List.set_cons_succ]
            refine wpAnyH_take (i := 37) (oi := ⟨some 161, _, _, _, _, _⟩) (v := ?vn16) rfl (by kernel_rfl) (by kernel_rfl) (by kernel_rfl) (fun _ _ _ h => h) (Or.inl ⟨by rfl, ?hyn16⟩) hHeld ?restn16
            case hyn16 => (intro wq hSw; (try dsimp only at hSw); go_simp; (try with_reducible rfl))
            try simp only [Act.put, List.setIfInBounds_toArray, List.set_cons_zero, List.set_cons_succ]
            refine wpAnyH_take (i := 39) (oi := ⟨some 163, _, _, _, _, _⟩) (v := ?vn17) rfl (by kernel_rfl) (by kernel_rfl) (by kernel_rfl) (fun _ _ _ h => h) (Or.inl ⟨by rfl, ?hyn17⟩) hHeld ?restn17
            case hyn17 => (intro wq hSw; (try dsimp only at hSw); go_simp; (try with_reducible rfl))
            try simp only [Act.put, List.setIfInBounds_toArray, List.set_cons_zero, List.set_cons_succ]
            refine wpAnyH_take (i := 40) (oi := ⟨some 164, _, _, _, _, _⟩) (v := ?vn18) rfl (by kernel_rfl) (by kernel_rfl) (by kernel_rfl) (fun _ _ _ h => h) (Or.inl ⟨by rfl, ?hyn18⟩) hHeld ?restn18
            case hyn18 => (intro wq hSw; (try dsimp only at hSw); go_simp; (try with_reducible rfl))
            try simp only [Act.put, List.setIfInBounds_toArray, List.set_cons_zero, List.set_cons_succ]
            refine wpAnyH_take (i := 41) (oi := ⟨some 165, _, _, _, _, _⟩) (v := ?vn19) rfl (by kernel_rfl) (by kernel_rfl) (by kernel_rfl) (fun _ _ _ h => h) (Or.inl ⟨by rfl, ?hyn19⟩) hHeld ?restn19
            case hyn19 => (intro wq hSw; (try dsimp only at hSw); go_simp; (try with_reducible rfl))
            try simp only [Act.put, List.setIfInBounds_toArray, List.set_cons_zero, List.set_cons_succ]
            refine wpAnyH_take (i := 42) (oi := ⟨some 166, _, _, _, _, _⟩) (v := ?vn20) rfl (by kernel_rfl) (by kernel_rfl) (by kernel_rfl) (fun _ _ _ h => h) (Or.inl ⟨by rfl, ?hyn20⟩) hHeld ?restn20
            case hyn20 => (intro wq hSw; (try dsimp only at hSw); go_simp; (try with_reducible rfl))
            try simp only [Act.put, List.setIfInBounds_toArray, List.set_cons_zero, List.set_cons_succ]
            refine wpAnyH_ready (rs := [38]) (by kernel_rfl) (by simp) ?_
            refine AllReadyH.cons (o := ⟨some 162, _, _, _, _, _⟩) rfl (fun K hK => ?_) AllReadyH.nil
            go_simp
            (refine (sUsed hh).mono ?_; rintro e w9 ⟨rfl, rfl⟩)
            refine hK.out _ _ (by exact ⟨c0, c1, d0⟩) (fun hHeld => ?_)
            clear hK K
            try simp only [Act.put, List.setIfInBounds_toArray, List.set_cons_zero, List.set_cons_succ]
            refine wpAnyH_ready (rs := [43]) (by kernel_rfl) (by simp) ?_
            refine AllReadyH.cons (o := ⟨some 167, _, _, _, _, _⟩) rfl (fun K hK => ?_) AllReadyH.nil
            go_simp
            (refine (uUsed (r := s) (room := room) (l := us) hh.pull2 (by simp) (by omega) hbb).mono ?_; rintro e w9 ⟨rfl, rfl⟩; rw [← huse ()])
            refine hK.out _ _ (by exact ⟨c0, c1, d0⟩) (fun hHeld => ?_)
            clear hK K
            try simp only [Act.put, List.setIfInBounds_toArray, List.set_cons_zero, List.set_cons_succ]
            refine wpAnyH_take (i := 44) (oi := ⟨some 168, _, _, _, _, _⟩) (v := ?vn21) rfl (by kernel_rfl) (by kernel_rfl) (by kernel_rfl) (fun _ _ _ h => h) (Or.inl ⟨by rfl, ?hyn21⟩) hHeld ?restn21
            case hyn21 => (intro wq hSw; (try dsimp only at hSw); go_simp; (try with_reducible rfl))
            try simp only [Act.put, List.setIfInBounds_toArray, List.set_cons_zero, List.set_cons_succ]
            refine wpAnyH_take (i := 45) (oi := ⟨some 169, _, _, _, _, _⟩) (v := ?vn22) rfl (by kernel_rfl) (by kernel_rfl) (by kernel_rfl) (fun _ _ _ h => h) (Or.inl ⟨by rfl, ?hyn22⟩) hHeld ?restn22
            case hyn22 => (intro wq hSw; (try dsimp only at hSw); go_simp; (try with_reducible rfl))
            try simp only [Act.put, List.setIfInBounds_toArray, List.set_cons_zero, List.set_cons_succ]
            refine wpAnyH_take (i := 46) (oi := ⟨some 170, _, _, _, _, _⟩) (v := ?vn23) rfl (by kernel_rfl) (by kernel_rfl) (by kernel_rfl) (fun _ _ _ h => h) (Or.inl ⟨by rfl, ?hyn23⟩) hHeld ?restn23
            case hyn23 => (intro wq hSw; (try dsimp only at hSw); go_simp; (try with_reducible rfl))
            try simp only [Act.put, List.setIfInBounds_toArray, List.set_cons_zero, List.set_cons_succ]
            refine wpAnyH_take (i := 47) (oi := ⟨some 171, _, _, _, _, _⟩) (v := ?vn24) rfl (by kernel_rfl) (by kernel_rfl) (by kernel_rfl) (fun _ _ _ h => h) (Or.inl ⟨by rfl, ?hyn24⟩) hHeld ?restn24
            case hyn24 => (intro wq hSw; (try dsimp only at hSw); go_simp; (try with_reducible rfl))
            try simp only [Act.put, List.setIfInBounds_toArray, List.set_cons_zero, List.set_cons_succ]
            refine wpAnyH_take (i := 49) (oi := ⟨some 173, _, _, _, _, _⟩) (v := ?vn25) rfl (by kernel_rfl) (by kernel_rfl) (by kernel_rfl) (fun _ _ _ h => h) (Or.inl ⟨by rfl, ?hyn25⟩) hHeld ?restn25
            case hyn25 => (intro wq hSw; (try dsimp only at hSw); go_simp; (try with_reducible rfl))
            try simp only [Act.put, List.setIfInBounds_toArray, List.set_cons_zero, List.set_cons_succ]
            refine wpAnyH_ready (rs := [48]) (by kernel_rfl) (by simp) ?_
            refine AllReadyH.cons (o := ⟨some 172, _, _, _, _, _⟩) rfl (fun K hK => ?_) AllReadyH.nil
            go_simp
            (refine (sRoom hh).mono ?_; rintro e w9 ⟨rfl, rfl⟩)
            refine hK.out _ _ (by exact ⟨c0, c1, d0⟩) (fun hHeld => ?_)
            clear hK K
            try simp only [Act.put, List.setIfInBounds_toArray, List.set_cons_zero, List.set_cons_succ]
            refine wpAnyH_take (i := 50) (oi := ⟨some 174, _, _, _, _, _⟩) (v := ?vn26) rfl (by kernel_rfl) (by kernel_rfl) (by kernel_rfl) (fun _ _ _ h => h) (Or.inl ⟨by rfl, ?hyn26⟩) hHeld ?restn26
            case hyn26 => (intro wq hSw; (try dsimp only at hSw); go_simp; (try with_reducible rfl))
            try simp only [Act.put, List.setIfInBounds_toArray, List.set_cons_zero, List.set_cons_succ]
            refine wpAnyH_take (i := 51) (oi := ⟨some 175, _, _, _, _, _⟩) (v := ?vn27) rfl (by kernel_rfl) (by kernel_rfl) (by kernel_rfl) (fun _ _ _ h => h) (Or.inl ⟨by rfl, ?hyn27⟩) hHeld ?restn27
            case hyn27 => (intro wq hSw; (try dsimp only at hSw); go_simp; (try with_reducible rfl))
            try simp only [Act.put, List.setIfInBounds_toArray, List.set_cons_zero, List.set_cons_succ]
            refine wpAnyH_take (i := 52) (oi := ⟨some 176, _, _, _, _, _⟩) (v := ?vn28) rfl (by kernel_rfl) (by kernel_rfl) (by kernel_rfl) (fun _ _ _ h => h) (Or.inl ⟨by rfl, ?hyn28⟩) hHeld ?restn28
            case hyn28 => (intro wq hSw; (try dsimp only at hSw); go_simp; (try with_reducible rfl))
            try simp only [Act.put, List.setIfInBounds_toArray, List.set_cons_zero, List.set_cons_succ]
            refine wpAnyH_take (i := 53) (oi := ⟨some 177, _, _, _, _, _⟩) (v := ?vn29) rfl (by kernel_rfl) (by kernel_rfl) (by kernel_rfl) (fun _ _ _ h => h) (Or.inl ⟨by rfl, ?hyn29⟩) hHeld ?restn29
            case hyn29 => (intro wq hSw; (try dsimp only at hSw); go_simp; (try with_reducible rfl))
            try simp only [Act.put, List.setIfInBounds_toArray, List.set_cons_zero, List.set_cons_succ]
            refine wpAnyH_take (i := 56) (oi := ⟨some 180, _, _, _, _, _⟩) (v := ?vn30) rfl (by kernel_rfl) (by kernel_rfl) (by kernel_rfl) (fun _ _ _ h => h) (Or.inl ⟨by rfl, ?hyn30⟩) hHeld ?restn30
            case hyn30 => (intro wq hSw; (try dsimp only at hSw); go_simp; (try with_reducible rfl))
            try simp only [Act.put, List.setIfInBounds_toArray, List.set_cons_zero, List.set_cons_succ]
            refine wpAnyH_take (i := 57) (oi := ⟨some 181, _, _, _, _, _⟩) (v := ?vn31) rfl (by kernel_rfl) (by kernel_rfl) (by kernel_rfl) (fun _ _ _ h => h) (Or.inl ⟨by rfl, ?hyn31⟩) hHeld ?restn31
            case hyn31 => (intro wq hSw; (try dsimp only at hSw); go_simp; (try with_reducible rfl))
            try simp only [Act.put, List.setIfInBounds_toArray, List.set_cons_zero, List.set_cons_succ]
            refine wpAnyH_take (i := 58) (oi := ⟨some 182, _, _, _, _, _⟩) (v := ?vn32) rfl (by kernel_rfl) (by kernel_rfl) (by kernel_rfl) (fun _ _ _ h => h) (Or.inl ⟨by rfl, ?hyn32⟩) hHeld ?restn32
            case hyn32 => (intro wq hSw; (try dsimp only at hSw); go_simp; (try with_reducible rfl))
            try simp only [Act.put, List.setIfInBounds_toArray, List.set_cons_zero, List.set_cons_succ]
            refine wpAnyH_take (i := 59) (oi := ⟨some 183, _, _, _, _, _⟩) (v := ?vn33) rfl (by kernel_rfl) (by kernel_rfl) (by kernel_rfl) (fun _ _ _ h => h) (Or.inl ⟨by rfl, ?hyn33⟩) hHeld ?restn33
            case hyn33 => (intro wq hSw; (try dsimp only at hSw); go_simp; (try with_reducible rfl))
            try simp only [Act.put, List.setIfInBounds_toArray, List.set_cons_zero, List.set_cons_succ]
            refine wpAnyH_take (i := 60) (oi := ⟨some 184, _, _, _, _, _⟩) (v := ?vn34) rfl (by kernel_rfl) (by kernel_rfl) (by kernel_rfl) (fun _ _ _ h => h) (Or.inl ⟨by rfl, ?hyn34⟩) hHeld ?restn34
            case hyn34 => (intro wq hSw; (try dsimp only at hSw); go_simp; (try with_reducible rfl))
            try simp only [Act.put, List.setIfInBounds_toArray, List.set_cons_zero, List.set_cons_succ]
            refine wpAnyH_take (i := 61) (oi := ⟨some 185, _, _, _, _, _⟩) (v := ?vn35) rfl (by kernel_rfl) (by kernel_rfl) (by kernel_rfl) (fun _ _ _ h => h) (Or.inl ⟨by rfl, ?hyn35⟩) hHeld ?restn35
            case hyn35 => (intro wq hSw; (try dsimp only at hSw); go_simp; (try with_reducible rfl))
            try simp only [Act.put, List.setIfInBounds_toArray, List.set_cons_zero, List.set_cons_succ]
            refine wpAnyH_take (i := 62) (oi := ⟨some 186, _, _, _, _, _⟩) (v := ?vn36) rfl (by kernel_rfl) (by kernel_rfl) (by kernel_rfl) (fun _ _ _ h => h) (Or.inl ⟨by rfl, ?hyn36⟩) hHeld ?restn36
            case hyn36 => (intro wq hSw; (try dsimp only at hSw); go_simp; (try with_reducible rfl))
            try simp only [Act.put, List.setIfInBounds_toArray, List.set_cons_zero, List.set_cons_succ]
            refine wpAnyH_take (i := 63) (oi := ⟨some 187, _, _, _, _, _⟩) (v := ?vn37) rfl (by kernel_rfl) (by kernel_rfl) (by kernel_rfl) (fun _ _ _ h => h) (Or.inl ⟨by rfl, ?hyn37⟩) hHeld ?restn37
            case hyn37 => (intro wq hSw; (try dsimp only at hSw); go_simp; (try with_reducible rfl))
            try simp only [Act.put, List.setIfInBounds_toArray, List.set_cons_zero, List.set_cons_succ]
            refine wpAnyH_ready (rs := [54]) (by kernel_rfl) (by simp) ?_
            refine AllReadyH.cons (o := ⟨some 178, _, _, _, _, _⟩) rfl (fun K hK => ?_) AllReadyH.nil
            go_simp
            (refine (sLive hh (by omega)).mono ?_; rintro e w9 ⟨v9, rfl, hl⟩; rw [hlive] at hl; obtain ⟨A9, c9, rfl, -⟩ := hl.row; rw [List.length_map] at hl ⊢; clear fg c0 c1 lg ft d0 lt; have fg := hl.blk (b := g) (o := gblk s t vO) (by simp); have c0 := cell_of fg 0; have c1 := cell_of fg 1; have lg := lt_of_heap fg; have ft := hl.blk (b := t) (o := rblk (.slice AL l.length cL) vA) (by simp); have d0 := cell_of ft 0; have lt := lt_of_heap ft; simp only [List.getElem?_toArray, List.getElem?_cons_zero, List.getElem?_cons_succ] at c0 c1 d0; have hend := hl.imp fun _ g => star_tail g)
            refine hK.out _ _ (by exact ⟨c0, c1, d0⟩) (fun hHeld => ?_)
            clear hK K
            try simp only [Act.put, List.setIfInBounds_toArray, List.set_cons_zero, List.set_cons_succ]
            refine wpAnyH_take (i := 55) (oi := ⟨some 179, _, _, _, _, _⟩) (v := ?vn38) rfl (by kernel_rfl) (by kernel_rfl) (by kernel_rfl) (fun _ _ _ h => h) (Or.inl ⟨by rfl, ?hyn38⟩) hHeld ?restn38
            case hyn38 => (intro wq hSw; (try dsimp only at hSw); go_simp; (try with_reducible rfl))
            try simp only [Act.put, List.setIfInBounds_toArray, List.set_cons_zero, List.set_cons_succ]
            refine wpAnyH_take (i := 64) (oi := ⟨some 188, _, _, _, _, _⟩) (v := ?vn39) rfl (by kernel_rfl) (by kernel_rfl) (by kernel_rfl) (fun _ _ _ h => h) (Or.inl ⟨by rfl, ?hyn39⟩) hHeld ?restn39
            case hyn39 => (intro wq hSw; (try dsimp only at hSw); go_simp; (try with_reducible rfl))
            try simp only [Act.put, List.setIfInBounds_toArray, List.set_cons_zero, List.set_cons_succ]
            refine wpAnyH_take (i := 65) (oi := ⟨some 189, _, _, _, _, _⟩) (v := ?vn40) rfl (by kernel_rfl) (by kernel_rfl) (by kernel_rfl) (fun _ _ _ h => h) (Or.inl ⟨by rfl, ?hyn40⟩) hHeld ?restn40
            case hyn40 => (intro wq hSw; (try dsimp only at hSw); go_simp; (try with_reducible rfl))
            try simp only [Act.put, List.setIfInBounds_toArray, List.set_cons_zero, List.set_cons_succ]
            refine wpAnyH_done (by kernel_rfl) ?_ _
            go_wp2_with fail
            go_meet
            case rel => exact ⟨rfl, hend⟩
          · as_aux_lemma =>
            have hjl := (List.getElem?_eq_some_iff.1 hj).1
            have zj : decide ((0 : Int) ≤ (j : Int)) = true := decide_eq_true (by omega)
            have zj1 : (0 : Int) ≤ (j : Int) := by omega
            have zj2 : (j : Int) < (st.ob.length : Int) := by omega
            have zn : (nn != nn) = false := by simp
            have zk : (kk != kk) = false := by simp
            obtain ⟨AO, cO, rfl, hrO, -⟩ := h3.swap.parts
            rw [List.length_map] at h3
            obtain ⟨bo, oo, rfl, -⟩ := rowcellO hrO hj
            clear hrO
            have fg := h3.blk (b := g) (o := gblk s t (.slice (some ⟨bo, oo, none⟩) st.ob.length cO)) (by simp); have c0 := cell_of fg 0; have c1 := cell_of fg 1; have c2 := cell_of fg 2; have lg := lt_of_heap fg; have ft := h3.blk (b := t) (o := rblk (.slice AL l.length cL) vA) (by simp); have d0 := cell_of ft 0; have lt := lt_of_heap ft; obtain ⟨m2, m3⟩ := h3.rotO0.cellO hj
            have hh := h3.upd (Upd.refl [] _).drew
            clear fg c0 c1 lg ft d0 lt c2 m2 m3; have fg := hh.blk (b := g) (o := gblk s t (.slice (some ⟨bo, oo, none⟩) st.ob.length cO)) (by simp); have c0 := cell_of fg 0; have c1 := cell_of fg 1; have lg := lt_of_heap fg; have ft := hh.blk (b := t) (o := rblk (.slice AL l.length cL) vA) (by simp); have d0 := cell_of ft 0; have lt := lt_of_heap ft; simp only [List.getElem?_toArray, List.getElem?_cons_zero, List.getElem?_cons_succ] at c0 c1 d0; have c2 := cell_of fg 2; simp only [List.getElem?_toArray, List.getElem?_cons_zero, List.getElem?_cons_succ] at c2; obtain ⟨m2, m3⟩ := hh.rotO0.cellO hj
            refine wp_region_held_drew (S := fun w' => w'.cell? ⟨g, 0, none⟩ = some (.pointer (some ⟨s, 0, none⟩)) ∧ w'.cell? ⟨g, 1, none⟩ = some (.pointer (some ⟨t, 0, none⟩)) ∧ w'.cell? ⟨t, 0, none⟩ = some (.slice AL l.length cL) ∧ w'.cell? ⟨g, 2, none⟩ = some (.slice (some ⟨bo, oo, none⟩) st.ob.length cO) ∧ w'.cell? ⟨bo, oo + j * 4 + 2, none⟩ = some (.int .i64 kk) ∧ w'.cell? ⟨bo, oo + j * 4 + 3, none⟩ = some (.int .i64 nn)) (by kernel_rfl) (by exact ⟨c0, c1, d0, c2, m2, m3⟩) (fun hHeld => ?_)
            refine wpAnyH_take (i := 0) (oi := ⟨some 124, _, _, _, _, _⟩) (v := ?vs1) rfl (by kernel_rfl) (by kernel_rfl) (by kernel_rfl) (fun _ _ _ h => h) (Or.inl ⟨by rfl, ?hys1⟩) hHeld ?rests1
            case hys1 => (intro wq hSw; (try dsimp only at hSw); go_simp; (try with_reducible rfl))
            try simp only [Act.put, List.setIfInBounds_toArray, List.set_cons_zero, List.set_cons_succ]
            refine wpAnyH_take (i := 1) (oi := ⟨some 125, _, _, _, _, _⟩) (v := ?vs2) rfl (by kernel_rfl) (by kernel_rfl) (by kernel_rfl) (fun _ _ _ h => h) (Or.inl ⟨by rfl, ?hys2⟩) hHeld ?rests2
            case hys2 => (intro wq hSw; (try dsimp only at hSw); go_simp; (try with_reducible rfl))
            try simp only [Act.put, List.setIfInBounds_toArray, List.set_cons_zero, List.set_cons_succ]
            refine wpAnyH_take (i := 2) (oi := ⟨some 126, _, _, _, _, _⟩) (v := ?vs3) rfl (by kernel_rfl) (by kernel_rfl) (by kernel_rfl) (fun _ _ _ h => h) (Or.inl ⟨by rfl, ?hys3⟩) hHeld ?rests3
            case hys3 => (intro wq hSw; (try dsimp only at hSw); go_simp; (try with_reducible rfl))
            try simp only [Act.put, List.setIfInBounds_toArray, List.set_cons_zero, List.set_cons_succ]
            refine wpAnyH_take (i := 3) (oi := ⟨some 127, _, _, _, _, _⟩) (v := ?vs4) rfl (by kernel_rfl) (by kernel_rfl) (by kernel_rfl) (fun _ _ _ h => h) (Or.inl ⟨by rfl, ?hys4⟩) hHeld ?rests4
            case hys4 => (intro wq hSw; (try dsimp only at hSw); go_simp; (try with_reducible rfl))
            try simp only [Act.put, List.setIfInBounds_toArray, List.set_cons_zero, List.set_cons_succ]
            refine wpAnyH_take (i := 4) (oi := ⟨some 128, _, _, _, _, _⟩) (v := ?vs5) rfl (by kernel_rfl) (by kernel_rfl) (by kernel_rfl) (fun _ _ _ h => h) (Or.inl ⟨by rfl, ?hys5⟩) hHeld ?rests5
            case hys5 => (intro wq hSw; (try dsimp only at hSw); go_simp; (try with_reducible rfl))
            try simp only [Act.put, List.setIfInBounds_toArray, List.set_cons_zero, List.set_cons_succ]
            refine wpAnyH_take (i := 5) (oi := ⟨some 129, _, _, _, _, _⟩) (v := ?vs6) rfl (by kernel_rfl) (by kernel_rfl) (by kernel_rfl) (fun _ _ _ h => h) (Or.inl ⟨by rfl, ?hys6⟩) hHeld ?rests6
            case hys6 => (intro wq hSw; (try dsimp only at hSw); go_simp; (try with_reducible rfl))
            try simp only [Act.put, List.setIfInBounds_toArray, List.set_cons_zero, List.set_cons_succ]
            refine wpAnyH_take (i := 6) (oi := ⟨some 130, _, _, _, _, _⟩) (v := ?vs7) rfl (by kernel_rfl) (by kernel_rfl) (by kernel_rfl) (fun _ _ _ h => h) (Or.inl ⟨by rfl, ?hys7⟩) hHeld ?rests7
            case hys7 => (intro wq hSw; (try dsimp only at hSw); go_simp; (try with_reducible rfl))
            try simp only [Act.put, List.setIfInBounds_toArray, List.set_cons_zero, List.set_cons_succ]
            refine wpAnyH_take (i := 7) (oi := ⟨some 131, _, _, _, _, _⟩) (v := ?vs8) rfl (by kernel_rfl) (by kernel_rfl) (by kernel_rfl) (fun _ _ _ h => h) (Or.inl ⟨by rfl, ?hys8⟩) hHeld ?rests8
            case hys8 => (intro wq hSw; (try dsimp only at hSw); go_simp; (try with_reducible rfl))
            try simp only [Act.put, List.setIfInBounds_toArray, List.set_cons_zero, List.set_cons_succ]
            refine wpAnyH_take (i := 8) (oi := ⟨some 132, _, _, _, _, _⟩) (v := ?vs9) rfl (by kernel_rfl) (by kernel_rfl) (by kernel_rfl) (fun _ _ _ h => h) (Or.inl ⟨by rfl, ?hys9⟩) hHeld ?rests9
            case hys9 => (intro wq hSw; (try dsimp only at hSw); go_simp; (try with_reducible rfl))
            try simp only [Act.put, List.setIfInBounds_toArray, List.set_cons_zero, List.set_cons_succ]
            refine wpAnyH_take (i := 9) (oi := ⟨some 133, _, _, _, _, _⟩) (v := ?vs10) rfl (by kernel_rfl) (by kernel_rfl) (by kernel_rfl) (fun _ _ _ h => h) (Or.inl ⟨by rfl, ?hys10⟩) hHeld ?rests10
            case hys10 => (intro wq hSw; (try dsimp only at hSw); go_simp; (try with_reducible rfl))
            try simp only [Act.put, List.setIfInBounds_toArray, List.set_cons_zero, List.set_cons_succ]
            refine wpAnyH_take (i := 10) (oi := ⟨some 134, _, _, _, _, _⟩) (v := ?vs11) rfl (by kernel_rfl) (by kernel_rfl) (by kernel_rfl) (fun _ _ _ h => h) (Or.inl ⟨by rfl, ?hys11⟩) hHeld ?rests11
            case hys11 => (intro wq hSw; (try dsimp only at hSw); go_simp; (try with_reducible rfl))
            try simp only [Act.put, List.setIfInBounds_toArray, List.set_cons_zero, List.set_cons_succ]
            refine wpAnyH_take (i := 11) (oi := ⟨some 135, _, _, _, _, _⟩) (v := ?vs12) rfl (by kernel_rfl) (by kernel_rfl) (by kernel_rfl) (fun _ _ _ h => h) (Or.inl ⟨by rfl, ?hys12⟩) hHeld ?rests12
            case hys12 => (intro wq hSw; (try dsimp only at hSw); go_simp; (try with_reducible rfl))
            try simp only [Act.put, List.setIfInBounds_toArray, List.set_cons_zero, List.set_cons_succ]
            refine wpAnyH_take (i := 12) (oi := ⟨some 136, _, _, _, _, _⟩) (v := ?vs13) rfl (by kernel_rfl) (by kernel_rfl) (by kernel_rfl) (fun _ _ _ h => h) (Or.inl ⟨by rfl, ?hys13⟩) hHeld ?rests13
            case hys13 => (intro wq hSw; (try dsimp only at hSw); go_simp; (try with_reducible rfl))
            try simp only [Act.put, List.setIfInBounds_toArray, List.set_cons_zero, List.set_cons_succ]
            refine wpAnyH_take (i := 13) (oi := ⟨some 137, _, _, _, _, _⟩) (v := ?vs14) rfl (by kernel_rfl) (by kernel_rfl) (by kernel_rfl) (fun _ _ _ h => h) (Or.inl ⟨by rfl, ?hys14⟩) hHeld ?rests14
            case hys14 => (intro wq hSw; (try dsimp only at hSw); go_simp; (try with_reducible rfl))
            try simp only [Act.put, List.setIfInBounds_toArray, List.set_cons_zero, List.set_cons_succ]
            refine wpAnyH_take (i := 14) (oi := ⟨some 138, _, _, _, _, _⟩) (v := ?vs15) rfl (by kernel_rfl) (by kernel_rfl) (by kernel_rfl) (fun _ _ _ h => h) (Or.inl ⟨by rfl, ?hys15⟩) hHeld ?rests15
            case hys15 => (intro wq hSw; (try dsimp only at hSw); go_simp; (try with_reducible rfl))
            try simp only [Act.put, List.setIfInBounds_toArray, List.set_cons_zero, List.set_cons_succ]
            refine wpAnyH_take (i := 15) (oi := ⟨some 139, _, _, _, _, _⟩) (v := ?vs16) rfl (by kernel_rfl) (by kernel_rfl) (by kernel_rfl) (fun _ _ _ h => h) (Or.inl ⟨by rfl, ?hys16⟩) hHeld ?rests16
            case hys16 => (intro wq hSw; (try dsimp only at hSw); go_simp; (try with_reducible rfl))
            try simp only [Act.put, List.setIfInBounds_toArray, List.set_cons_zero, List.set_cons_succ]
            refine wpAnyH_take (i := 16) (oi := ⟨some 140, _, _, _, _, _⟩) (v := ?vs17) rfl (by kernel_rfl) (by kernel_rfl) (by kernel_rfl) (fun _ _ _ h => h) (Or.inl ⟨by rfl, ?hys17⟩) hHeld ?rests17
            case hys17 => (intro wq hSw; (try dsimp only at hSw); go_simp; (try with_reducible rfl))
            try simp only [Act.put, List.setIfInBounds_toArray, List.set_cons_zero, List.set_cons_succ]
            refine wpAnyH_take (i := 17) (oi := ⟨some 141, _, _, _, _, _⟩) (v := ?vs18) rfl (by kernel_rfl) (by kernel_rfl) (by kernel_rfl) (fun _ _ _ h => h) (Or.inl ⟨by rfl, ?hys18⟩) hHeld ?rests18
            case hys18 => (intro wq hSw; (try dsimp only at hSw); go_simp; (try with_reducible rfl))
            try simp only [Act.put, List.setIfInBounds_toArray, List.set_cons_zero, List.set_cons_succ]
            refine wpAnyH_take (i := 18) (oi := ⟨some 142, _, _, _, _, _⟩) (v := ?vs19) rfl (by kernel_rfl) (by kernel_rfl) (by kernel_rfl) (fun _ _ _ h => h) (Or.inl ⟨by rfl, ?hys19⟩) hHeld ?rests19
            case hys19 => (intro wq hSw; (try dsimp only at hSw); go_simp; (try with_reducible rfl))
            try simp only [Act.put, List.setIfInBounds_toArray, List.set_cons_zero, List.set_cons_succ]
            refine wpAnyH_take (i := 19) (oi := ⟨some 143, _, _, _, _, _⟩) (v := ?vs20) rfl (by kernel_rfl) (by kernel_rfl) (by kernel_rfl) (fun _ _ _ h => h) (Or.inl ⟨by rfl, ?hys20⟩) hHeld ?rests20
            case hys20 => (intro wq hSw; (try dsimp only at hSw); go_simp; (try with_reducible rfl))
            try simp only [Act.put, List.setIfInBounds_toArray, List.set_cons_zero, List.set_cons_succ]
            refine wpAnyH_take (i := 20) (oi := ⟨some 144, _, _, _, _, _⟩) (v := ?vs21) rfl (by kernel_rfl) (by kernel_rfl) (by kernel_rfl) (fun _ _ _ h => h) (Or.inl ⟨by rfl, ?hys21⟩) hHeld ?rests21
            case hys21 => (intro wq hSw; (try dsimp only at hSw); go_simp; (try with_reducible rfl))
            try simp only [Act.put, List.setIfInBounds_toArray, List.set_cons_zero, List.set_cons_succ]
            refine wpAnyH_take (i := 21) (oi := ⟨some 145, _, _, _, _, _⟩) (v := ?vs22) rfl (by kernel_rfl) (by kernel_rfl) (by kernel_rfl) (fun _ _ _ h => h) (Or.inl ⟨by rfl, ?hys22⟩) hHeld ?rests22
            case hys22 => (intro wq hSw; (try dsimp only at hSw); go_simp; (try with_reducible rfl))
            try simp only [Act.put, List.setIfInBounds_toArray, List.set_cons_zero, List.set_cons_succ]
            refine wpAnyH_take (i := 22) (oi := ⟨some 146, _, _, _, _, _⟩) (v := ?vs23) rfl (by kernel_rfl) (by kernel_rfl) (by kernel_rfl) (fun _ _ _ h => h) (Or.inl ⟨by rfl, ?hys23⟩) hHeld ?rests23
            case hys23 => (intro wq hSw; (try dsimp only at hSw); go_simp; (try with_reducible rfl))
            try simp only [Act.put, List.setIfInBounds_toArray, List.set_cons_zero, List.set_cons_succ]
            refine wpAnyH_take (i := 23) (oi := ⟨some 147, _, _, _, _, _⟩) (v := ?vs24) rfl (by kernel_rfl) (by kernel_rfl) (by kernel_rfl) (fun _ _ _ h => h) (Or.inl ⟨by rfl, ?hys24⟩) hHeld ?rests24
            case hys24 => (intro wq hSw; (try dsimp only at hSw); go_simp; (try with_reducible rfl))
            try simp only [Act.put, List.setIfInBounds_toArray, List.set_cons_zero, List.set_cons_succ]
            refine wpAnyH_take (i := 24) (oi := ⟨some 148, _, _, _, _, _⟩) (v := ?vs25) rfl (by kernel_rfl) (by kernel_rfl) (by kernel_rfl) (fun _ _ _ h => h) (Or.inl ⟨by rfl, ?hys25⟩) hHeld ?rests25
            case hys25 => (intro wq hSw; (try dsimp only at hSw); go_simp; (try with_reducible rfl))
            try simp only [Act.put, List.setIfInBounds_toArray, List.set_cons_zero, List.set_cons_succ]
            refine wpAnyH_take (i := 25) (oi := ⟨some 149, _, _, _, _, _⟩) (v := ?vs26) rfl (by kernel_rfl) (by kernel_rfl) (by kernel_rfl) (fun _ _ _ h => h) (Or.inl ⟨by rfl, ?hys26⟩) hHeld ?rests26
            case hys26 => (intro wq hSw; (try dsimp only at hSw); go_simp; (try with_reducible rfl))
            try simp only [Act.put, List.setIfInBounds_toArray, List.set_cons_zero, List.set_cons_succ]
            refine wpAnyH_take (i := 26) (oi := ⟨some 150, _, _, _, _, _⟩) (v := ?vs27) rfl (by kernel_rfl) (by kernel_rfl) (by kernel_rfl) (fun _ _ _ h => h) (Or.inl ⟨by rfl, ?hys27⟩) hHeld ?rests27
            case hys27 => (intro wq hSw; (try dsimp only at hSw); go_simp; (try with_reducible rfl))
            try simp only [Act.put, List.setIfInBounds_toArray, List.set_cons_zero, List.set_cons_succ]
            refine wpAnyH_take (i := 27) (oi := ⟨some 151, _, _, _, _, _⟩) (v := ?vs28) rfl (by kernel_rfl) (by kernel_rfl) (by kernel_rfl) (fun _ _ _ h => h) (Or.inl ⟨by rfl, ?hys28⟩) hHeld ?rests28
            case hys28 => (intro wq hSw; (try dsimp only at hSw); go_simp; (try with_reducible rfl))
            try simp only [Act.put, List.setIfInBounds_toArray, List.set_cons_zero, List.set_cons_succ]
            refine wpAnyH_take (i := 28) (oi := ⟨some 152, _, _, _, _, _⟩) (v := ?vs29) rfl (by kernel_rfl) (by kernel_rfl) (by kernel_rfl) (fun _ _ _ h => h) (Or.inl ⟨by rfl, ?hys29⟩) hHeld ?rests29
            case hys29 => (intro wq hSw; (try dsimp only at hSw); go_simp; (try with_reducible rfl))
            try simp only [Act.put, List.setIfInBounds_toArray, List.set_cons_zero, List.set_cons_succ]
            refine wpAnyH_take (i := 29) (oi := ⟨some 153, _, _, _, _, _⟩) (v := ?vs30) rfl (by kernel_rfl) (by kernel_rfl) (by kernel_rfl) (fun _ _ _ h => h) (Or.inl ⟨by rfl, ?hys30⟩) hHeld ?rests30
            case hys30 => (intro wq hSw; (try dsimp only at hSw); go_simp; (try with_reducible rfl))
            try simp only [Act.put, List.setIfInBounds_toArray, List.set_cons_zero, List.set_cons_succ]
            refine wpAnyH_take (i := 30) (oi := ⟨some 154, _, _, _, _, _⟩) (v := ?vs31) rfl (by kernel_rfl) (by kernel_rfl) (by kernel_rfl) (fun _ _ _ h => h) (Or.inl ⟨by rfl, ?hys31⟩) hHeld ?rests31
            case hys31 => (intro wq hSw; (try dsimp only at hSw); go_simp; (try with_reducible rfl))
            try simp only [Act.put, List.setIfInBounds_toArray, List.set_cons_zero, List.set_cons_succ]
            refine wpAnyH_take (i := 31) (oi := ⟨some 155, _, _, _, _, _⟩) (v := ?vs32) rfl (by kernel_rfl) (by kernel_rfl) (by kernel_rfl) (fun _ _ _ h => h) (Or.inl ⟨by rfl, ?hys32⟩) hHeld ?rests32
            case hys32 => (intro wq hSw; (try dsimp only at hSw); go_simp; (try with_reducible rfl))
            try simp only [Act.put, List.setIfInBounds_toArray, List.set_cons_zero, List.set_cons_succ]
            refine wpAnyH_take (i := 32) (oi := ⟨some 156, _, _, _, _, _⟩) (v := ?vs33) rfl (by kernel_rfl) (by kernel_rfl) (by kernel_rfl) (fun _ _ _ h => h) (Or.inl ⟨by rfl, ?hys33⟩) hHeld ?rests33
            case hys33 => (intro wq hSw; (try dsimp only at hSw); go_simp; (try with_reducible rfl))
            try simp only [Act.put, List.setIfInBounds_toArray, List.set_cons_zero, List.set_cons_succ]
            refine wpAnyH_take (i := 33) (oi := ⟨some 157, _, _, _, _, _⟩) (v := ?vs34) rfl (by kernel_rfl) (by kernel_rfl) (by kernel_rfl) (fun _ _ _ h => h) (Or.inl ⟨by rfl, ?hys34⟩) hHeld ?rests34
            case hys34 => (intro wq hSw; (try dsimp only at hSw); go_simp; (try with_reducible rfl))
            try simp only [Act.put, List.setIfInBounds_toArray, List.set_cons_zero, List.set_cons_succ]
            refine wpAnyH_take (i := 34) (oi := ⟨some 158, _, _, _, _, _⟩) (v := ?vs35) rfl (by kernel_rfl) (by kernel_rfl) (by kernel_rfl) (fun _ _ _ h => h) (Or.inl ⟨by rfl, ?hys35⟩) hHeld ?rests35
            case hys35 => (intro wq hSw; (try dsimp only at hSw); go_simp; (try with_reducible rfl))
            try simp only [Act.put, List.setIfInBounds_toArray, List.set_cons_zero, List.set_cons_succ]
            refine wpAnyH_take (i := 35) (oi := ⟨some 159, _, _, _, _, _⟩) (v := ?vs36) rfl (by kernel_rfl) (by kernel_rfl) (by kernel_rfl) (fun _ _ _ h => h) (Or.inl ⟨by rfl, ?hys36⟩) hHeld ?rests36
            case hys36 => (intro wq hSw; (try dsimp only at hSw); go_simp; (try with_reducible rfl))
            try simp only [Act.put, List.setIfInBounds_toArray, List.set_cons_zero, List.set_cons_succ]
            refine wpAnyH_take (i := 36) (oi := ⟨some 160, _, _, _, _, _⟩) (v := ?vs37) rfl (by kernel_rfl) (by kernel_rfl) (by kernel_rfl) (fun _ _ _ h => h) (Or.inl ⟨by rfl, ?hys37⟩) hHeld ?rests37
            case hys37 => (intro wq hSw; (try dsimp only at hSw); go_simp; (try with_reducible rfl))
            try simp only [Act.put, List.setIfInBounds_toArray, List.set_cons_zero, List.set_cons_succ]
            refine wpAnyH_take (i := 37) (oi := ⟨some 161, _, _, _, _, _⟩) (v := ?vs38) rfl (by kernel_rfl) (by kernel_rfl) (by kernel_rfl) (fun _ _ _ h => h) (Or.inl ⟨by rfl, ?hys38⟩) hHeld ?rests38
            case hys38 => (intro wq hSw; (try dsimp only at hSw); go_simp; (try with_reducible rfl))
            try simp only [Act.put, List.setIfInBounds_toArray, List.set_cons_zero, List.set_cons_succ]
            refine wpAnyH_take (i := 39) (oi := ⟨some 163, _, _, _, _, _⟩) (v := ?vs39) rfl (by kernel_rfl) (by kernel_rfl) (by kernel_rfl) (fun _ _ _ h => h) (Or.inl ⟨by rfl, ?hys39⟩) hHeld ?rests39
            case hys39 => (intro wq hSw; (try dsimp only at hSw); go_simp; (try with_reducible rfl))
            try simp only [Act.put, List.setIfInBounds_toArray, List.set_cons_zero, List.set_cons_succ]
            refine wpAnyH_take (i := 40) (oi := ⟨some 164, _, _, _, _, _⟩) (v := ?vs40) rfl (by kernel_rfl) (by kernel_rfl) (by kernel_rfl) (fun _ _ _ h => h) (Or.inl ⟨by rfl, ?hys40⟩) hHeld ?rests40
            case hys40 => (intro wq hSw; (try dsimp only at hSw); go_simp; (try with_reducible rfl))
            try simp only [Act.put, List.setIfInBounds_toArray, List.set_cons_zero, List.set_cons_succ]
            refine wpAnyH_take (i := 41) (oi := ⟨some 165, _, _, _, _, _⟩) (v := ?vs41) rfl (by kernel_rfl) (by kernel_rfl) (by kernel_rfl) (fun _ _ _ h => h) (Or.inl ⟨by rfl, ?hys41⟩) hHeld ?rests41
            case hys41 => (intro wq hSw; (try dsimp only at hSw); go_simp; (try with_reducible rfl))
            try simp only [Act.put, List.setIfInBounds_toArray, List.set_cons_zero, List.set_cons_succ]
            refine wpAnyH_take (i := 42) (oi := ⟨some 166, _, _, _, _, _⟩) (v := ?vs42) rfl (by kernel_rfl) (by kernel_rfl) (by kernel_rfl) (fun _ _ _ h => h) (Or.inl ⟨by rfl, ?hys42⟩) hHeld ?rests42
            case hys42 => (intro wq hSw; (try dsimp only at hSw); go_simp; (try with_reducible rfl))
            try simp only [Act.put, List.setIfInBounds_toArray, List.set_cons_zero, List.set_cons_succ]
            refine wpAnyH_ready (rs := [38]) (by kernel_rfl) (by simp) ?_
            refine AllReadyH.cons (o := ⟨some 162, _, _, _, _, _⟩) rfl (fun K hK => ?_) AllReadyH.nil
            go_simp
            (refine (sUsed hh).mono ?_; rintro e w9 ⟨rfl, rfl⟩)
            refine hK.out _ _ (by exact ⟨c0, c1, d0, c2, m2, m3⟩) (fun hHeld => ?_)
            clear hK K
            try simp only [Act.put, List.setIfInBounds_toArray, List.set_cons_zero, List.set_cons_succ]
            refine wpAnyH_ready (rs := [43]) (by kernel_rfl) (by simp) ?_
            refine AllReadyH.cons (o := ⟨some 167, _, _, _, _, _⟩) rfl (fun K hK => ?_) AllReadyH.nil
            go_simp
            (refine (uUsed (r := s) (room := room) (l := us) hh.pull2 (by simp) (by omega) hbb).mono ?_; rintro e w9 ⟨rfl, rfl⟩; rw [← huse ()])
            refine hK.out _ _ (by exact ⟨c0, c1, d0, c2, m2, m3⟩) (fun hHeld => ?_)
            clear hK K
            try simp only [Act.put, List.setIfInBounds_toArray, List.set_cons_zero, List.set_cons_succ]
            refine wpAnyH_take (i := 44) (oi := ⟨some 168, _, _, _, _, _⟩) (v := ?vs43) rfl (by kernel_rfl) (by kernel_rfl) (by kernel_rfl) (fun _ _ _ h => h) (Or.inl ⟨by rfl, ?hys43⟩) hHeld ?rests43
            case hys43 => (intro wq hSw; (try dsimp only at hSw); go_simp; (try with_reducible rfl))
            try simp only [Act.put, List.setIfInBounds_toArray, List.set_cons_zero, List.set_cons_succ]
            refine wpAnyH_take (i := 45) (oi := ⟨some 169, _, _, _, _, _⟩) (v := ?vs44) rfl (by kernel_rfl) (by kernel_rfl) (by kernel_rfl) (fun _ _ _ h => h) (Or.inl ⟨by rfl, ?hys44⟩) hHeld ?rests44
            case hys44 => (intro wq hSw; (try dsimp only at hSw); go_simp; (try with_reducible rfl))
            try simp only [Act.put, List.setIfInBounds_toArray, List.set_cons_zero, List.set_cons_succ]
            refine wpAnyH_take (i := 46) (oi := ⟨some 170, _, _, _, _, _⟩) (v := ?vs45) rfl (by kernel_rfl) (by kernel_rfl) (by kernel_rfl) (fun _ _ _ h => h) (Or.inl ⟨by rfl, ?hys45⟩) hHeld ?rests45
            case hys45 => (intro wq hSw; (try dsimp only at hSw); go_simp; (try with_reducible rfl))
            try simp only [Act.put, List.setIfInBounds_toArray, List.set_cons_zero, List.set_cons_succ]
            refine wpAnyH_take (i := 47) (oi := ⟨some 171, _, _, _, _, _⟩) (v := ?vs46) rfl (by kernel_rfl) (by kernel_rfl) (by kernel_rfl) (fun _ _ _ h => h) (Or.inl ⟨by rfl, ?hys46⟩) hHeld ?rests46
            case hys46 => (intro wq hSw; (try dsimp only at hSw); go_simp; (try with_reducible rfl))
            try simp only [Act.put, List.setIfInBounds_toArray, List.set_cons_zero, List.set_cons_succ]
            refine wpAnyH_take (i := 49) (oi := ⟨some 173, _, _, _, _, _⟩) (v := ?vs47) rfl (by kernel_rfl) (by kernel_rfl) (by kernel_rfl) (fun _ _ _ h => h) (Or.inl ⟨by rfl, ?hys47⟩) hHeld ?rests47
            case hys47 => (intro wq hSw; (try dsimp only at hSw); go_simp; (try with_reducible rfl))
            try simp only [Act.put, List.setIfInBounds_toArray, List.set_cons_zero, List.set_cons_succ]
            refine wpAnyH_ready (rs := [48]) (by kernel_rfl) (by simp) ?_
            refine AllReadyH.cons (o := ⟨some 172, _, _, _, _, _⟩) rfl (fun K hK => ?_) AllReadyH.nil
            go_simp
            (refine (sRoom hh).mono ?_; rintro e w9 ⟨rfl, rfl⟩)
            refine hK.out _ _ (by exact ⟨c0, c1, d0, c2, m2, m3⟩) (fun hHeld => ?_)
            clear hK K
            try simp only [Act.put, List.setIfInBounds_toArray, List.set_cons_zero, List.set_cons_succ]
            refine wpAnyH_take (i := 50) (oi := ⟨some 174, _, _, _, _, _⟩) (v := ?vs48) rfl (by kernel_rfl) (by kernel_rfl) (by kernel_rfl) (fun _ _ _ h => h) (Or.inl ⟨by rfl, ?hys48⟩) hHeld ?rests48
            case hys48 => (intro wq hSw; (try dsimp only at hSw); go_simp; (try with_reducible rfl))
            try simp only [Act.put, List.setIfInBounds_toArray, List.set_cons_zero, List.set_cons_succ]
            refine wpAnyH_take (i := 51) (oi := ⟨some 175, _, _, _, _, _⟩) (v := ?vs49) rfl (by kernel_rfl) (by kernel_rfl) (by kernel_rfl) (fun _ _ _ h => h) (Or.inl ⟨by rfl, ?hys49⟩) hHeld ?rests49
            case hys49 => (intro wq hSw; (try dsimp only at hSw); go_simp; (try with_reducible rfl))
            try simp only [Act.put, List.setIfInBounds_toArray, List.set_cons_zero, List.set_cons_succ]
            refine wpAnyH_take (i := 52) (oi := ⟨some 176, _, _, _, _, _⟩) (v := ?vs50) rfl (by kernel_rfl) (by kernel_rfl) (by kernel_rfl) (fun _ _ _ h => h) (Or.inl ⟨by rfl, ?hys50⟩) hHeld ?rests50
            case hys50 => (intro wq hSw; (try dsimp only at hSw); go_simp; (try with_reducible rfl))
            try simp only [Act.put, List.setIfInBounds_toArray, List.set_cons_zero, List.set_cons_succ]
            refine wpAnyH_take (i := 53) (oi := ⟨some 177, _, _, _, _, _⟩) (v := ?vs51) rfl (by kernel_rfl) (by kernel_rfl) (by kernel_rfl) (fun _ _ _ h => h) (Or.inl ⟨by rfl, ?hys51⟩) hHeld ?rests51
            case hys51 => (intro wq hSw; (try dsimp only at hSw); go_simp; (try with_reducible rfl))
            try simp only [Act.put, List.setIfInBounds_toArray, List.set_cons_zero, List.set_cons_succ]
            refine wpAnyH_take (i := 56) (oi := ⟨some 180, _, _, _, _, _⟩) (v := ?vs52) rfl (by kernel_rfl) (by kernel_rfl) (by kernel_rfl) (fun _ _ _ h => h) (Or.inl ⟨by rfl, ?hys52⟩) hHeld ?rests52
            case hys52 => (intro wq hSw; (try dsimp only at hSw); go_simp; (try with_reducible rfl))
            try simp only [Act.put, List.setIfInBounds_toArray, List.set_cons_zero, List.set_cons_succ]
            refine wpAnyH_take (i := 57) (oi := ⟨some 181, _, _, _, _, _⟩) (v := ?vs53) rfl (by kernel_rfl) (by kernel_rfl) (by kernel_rfl) (fun _ _ _ h => h) (Or.inl ⟨by rfl, ?hys53⟩) hHeld ?rests53
            case hys53 => (intro wq hSw; (try dsimp only at hSw); go_simp; (try with_reducible rfl))
            try simp only [Act.put, List.setIfInBounds_toArray, List.set_cons_zero, List.set_cons_succ]
            refine wpAnyH_take (i := 58) (oi := ⟨some 182, _, _, _, _, _⟩) (v := ?vs54) rfl (by kernel_rfl) (by kernel_rfl) (by kernel_rfl) (fun _ _ _ h => h) (Or.inl ⟨by rfl, ?hys54⟩) hHeld ?rests54
            case hys54 => (intro wq hSw; (try dsimp only at hSw); go_simp; (try with_reducible rfl))
            try simp only [Act.put, List.setIfInBounds_toArray, List.set_cons_zero, List.set_cons_succ]
            refine wpAnyH_take (i := 59) (oi := ⟨some 183, _, _, _, _, _⟩) (v := ?vs55) rfl (by kernel_rfl) (by kernel_rfl) (by kernel_rfl) (fun _ _ _ h => h) (Or.inl ⟨by rfl, ?hys55⟩) hHeld ?rests55
            case hys55 => (intro wq hSw; (try dsimp only at hSw); go_simp; (try with_reducible rfl))
            try simp only [Act.put, List.setIfInBounds_toArray, List.set_cons_zero, List.set_cons_succ]
            refine wpAnyH_take (i := 60) (oi := ⟨some 184, _, _, _, _, _⟩) (v := ?vs56) rfl (by kernel_rfl) (by kernel_rfl) (by kernel_rfl) (fun _ _ _ h => h) (Or.inl ⟨by rfl, ?hys56⟩) hHeld ?rests56
            case hys56 => (intro wq hSw; (try dsimp only at hSw); go_simp; (try with_reducible rfl))
            try simp only [Act.put, List.setIfInBounds_toArray, List.set_cons_zero, List.set_cons_succ]
            refine wpAnyH_take (i := 61) (oi := ⟨some 185, _, _, _, _, _⟩) (v := ?vs57) rfl (by kernel_rfl) (by kernel_rfl) (by kernel_rfl) (fun _ _ _ h => h) (Or.inl ⟨by rfl, ?hys57⟩) hHeld ?rests57
            case hys57 => (intro wq hSw; (try dsimp only at hSw); go_simp; (try with_reducible rfl))
            try simp only [Act.put, List.setIfInBounds_toArray, List.set_cons_zero, List.set_cons_succ]
            refine wpAnyH_take (i := 62) (oi := ⟨some 186, _, _, _, _, _⟩) (v := ?vs58) rfl (by kernel_rfl) (by kernel_rfl) (by kernel_rfl) (fun _ _ _ h => h) (Or.inl ⟨by rfl, ?hys58⟩) hHeld ?rests58
            case hys58 => (intro wq hSw; (try dsimp only at hSw); go_simp; (try with_reducible rfl))
            try simp only [Act.put, List.setIfInBounds_toArray, List.set_cons_zero, List.set_cons_succ]
            refine wpAnyH_take (i := 63) (oi := ⟨some 187, _, _, _, _, _⟩) (v := ?vs59) rfl (by kernel_rfl) (by kernel_rfl) (by kernel_rfl) (fun _ _ _ h => h) (Or.inl ⟨by rfl, ?hys59⟩) hHeld ?rests59
            case hys59 => (intro wq hSw; (try dsimp only at hSw); go_simp; (try with_reducible rfl))
            try simp only [Act.put, List.setIfInBounds_toArray, List.set_cons_zero, List.set_cons_succ]
            refine wpAnyH_ready (rs := [54]) (by kernel_rfl) (by simp) ?_
            refine AllReadyH.cons (o := ⟨some 178, _, _, _, _, _⟩) rfl (fun K hK => ?_) AllReadyH.nil
            go_simp
            (refine (sLive hh (by omega)).mono ?_; rintro e w9 ⟨v9, rfl, hl⟩; rw [hlive] at hl; obtain ⟨A9, c9, rfl, -⟩ := hl.row; rw [List.length_map] at hl ⊢; clear fg c0 c1 lg ft d0 lt c2 m2 m3; have fg := hl.blk (b := g) (o := gblk s t (.slice (some ⟨bo, oo, none⟩) st.ob.length cO)) (by simp); have c0 := cell_of fg 0; have c1 := cell_of fg 1; have lg := lt_of_heap fg; have ft := hl.blk (b := t) (o := rblk (.slice AL l.length cL) vA) (by simp); have d0 := cell_of ft 0; have lt := lt_of_heap ft; simp only [List.getElem?_toArray, List.getElem?_cons_zero, List.getElem?_cons_succ] at c0 c1 d0; have c2 := cell_of fg 2; simp only [List.getElem?_toArray, List.getElem?_cons_zero, List.getElem?_cons_succ] at c2; obtain ⟨m2, m3⟩ := hl.rotO.cellO hj; have hend := hl.imp fun _ g => star_tail g)
            refine hK.out _ _ (by exact ⟨c0, c1, d0, c2, m2, m3⟩) (fun hHeld => ?_)
            clear hK K
            try simp only [Act.put, List.setIfInBounds_toArray, List.set_cons_zero, List.set_cons_succ]
            refine wpAnyH_take (i := 55) (oi := ⟨some 179, _, _, _, _, _⟩) (v := ?vs60) rfl (by kernel_rfl) (by kernel_rfl) (by kernel_rfl) (fun _ _ _ h => h) (Or.inl ⟨by rfl, ?hys60⟩) hHeld ?rests60
            case hys60 => (intro wq hSw; (try dsimp only at hSw); go_simp; (try with_reducible rfl))
            try simp only [Act.put, List.setIfInBounds_toArray, List.set_cons_zero, List.set_cons_succ]
            refine wpAnyH_take (i := 64) (oi := ⟨some 188, _, _, _, _, _⟩) (v := ?vs61) rfl (by kernel_rfl) (by kernel_rfl) (by kernel_rfl) (fun _ _ _ h => h) (Or.inl ⟨by rfl, ?hys61⟩) hHeld ?rests61
            case hys61 => (intro wq hSw; (try dsimp only at hSw); go_simp; (try with_reducible rfl))
            try simp only [Act.put, List.setIfInBounds_toArray, List.set_cons_zero, List.set_cons_succ]
            refine wpAnyH_take (i := 65) (oi := ⟨some 189, _, _, _, _, _⟩) (v := ?vs62) rfl (by kernel_rfl) (by kernel_rfl) (by kernel_rfl) (fun _ _ _ h => h) (Or.inl ⟨by rfl, ?hys62⟩) hHeld ?rests62
            case hys62 => (intro wq hSw; (try dsimp only at hSw); go_simp; (try with_reducible rfl))
            try simp only [Act.put, List.setIfInBounds_toArray, List.set_cons_zero, List.set_cons_succ]
            refine wpAnyH_done (by kernel_rfl) ?_ _
            go_wp2_with fail
            go_meet
            case rel =>
              refine ⟨rfl, ?_⟩
              rw [List.length_map]
              exact hend
        case rest => as_aux_lemma =>
          clear hcase h3 yroom yused
          obtain ⟨rfl, hh⟩ := hcut
          go_wp2_with fail
          refine (sLive hh (by omega)).mono ?_
          rintro e wf ⟨v, rfl, h4⟩
          rw [hlive] at h4
          obtain ⟨A9, c9, rfl, -⟩ := h4.row
          rw [List.length_map] at h4
          clear hh
          go_wp2_with fail
          go_loopg [22] l.length (fun kq v22 w' => ∃ k : Nat, v22 = .int .i64 (k : Int) ∧ kq + k = l.length ∧ SepK w w' (refK g s t room vO vS (.slice AL l.length cL) vA [(b11, .cells #[.int .i64 q.1, .int .u64 q.2] 30 (0, 0))]) (star (rowR 30 2 (.slice A9 l.length c9) (l.map encH)) (star (heldR x room st) (refR vO vS (.slice AL l.length cL) vA st.ob us l st.L (star (rowR 30 2 u8 (al.map encH)) emp)))))
          case atStart => exact ⟨0, rfl, rfl, h4⟩
          case round =>
            clear h4
            obtain ⟨k, rfl, hk2, hc⟩ := hrel
            by_cases hkl : k < l.length
            · have y3 : decide ((k : Int) < (l.length : Int)) = true := decide_eq_true (by omega)
              have y4 : (0 : Int) ≤ (k : Int) := by omega
              have y5 : (k : Int) < (l.length : Int) := by omega
              obtain ⟨y, hy⟩ : ∃ y, l[k]? = some y := ⟨l[k], List.getElem?_eq_getElem hkl⟩
              obtain ⟨A7, c7, e7, hr7⟩ := hc.row
              rw [List.length_map] at e7
              cases e7
              obtain ⟨bv, ov, rfl, n0, n1⟩ := rowcell (k := 0) (c := 0) hr7 hy
              obtain ⟨A6, c6, e6, hr6⟩ := (hc.imp fun _ g => star_tail g).pull3.row
              rw [List.length_map] at e6
              cases e6
              obtain ⟨bo, oo, rfl, n2, n3⟩ := rowcell (k := 0) (c := 0) hr6 hy
              clear hr6 hr7 hy
              have fg := hc.blk (b := g) (o := gblk s t vO) (by simp)
              have c1 := cell_of fg 1
              have lg := lt_of_heap fg
              have ft := hc.blk (b := t) (o := rblk (.slice (some ⟨bo, oo, none⟩) l.length cL) vA) (by simp)
              have d0 := cell_of ft 0
              have lt := lt_of_heap ft
              simp only [List.getElem?_toArray, List.getElem?_cons_zero, List.getElem?_cons_succ] at c1 d0
              clear fg ft
              have hne := fun w => neq30 y.1 y.2 y.1 y.2 w
              simp only [decide_true, Bool.not_true] at hne
              go_wp2_with fail
              go_quiet (fail)
              go_wp2_with fail
              go_roundg (gk - 1)
              case measure => omega
              case rel => exact ⟨k + 1, by go_num, by omega, hc.upd ((Upd.refl [] _).drewN _)⟩
            · have y3 : decide ((k : Int) < (l.length : Int)) = false := decide_eq_false (by omega)
              have hz := hc.imp fun _ g => star_tail g
              clear hc
              go_wp2_with fail
              go_roundg (ls.length - i - 1)
              case measure => omega
              case rel => exact ⟨i + 1, al, vO, vS, .slice AL l.length cL, vA, st, us, l, by go_num, by omega, hz.drop _ (by intro p hp; simp at hp ⊢; rcases hp with h | h | h <;> simp [h]), hP, by omega, hok⟩
    · have z4 : decide ((i : Int) < (ls.length : Int)) = false := decide_eq_false (by omega)
      have U := hS.u
      clear hS
      go_wp2_with (go_at_call 28; (with_reducible refine (works14 _).mono ?_); rintro e wc ⟨rfl, u1⟩)
      go_ret
      exact ⟨rfl, U.trans u1⟩
    end Go.Proofs.Ytgleceijdedlkaa
