/- HandlePlays: the walk. -/
import Derived.Test.YtgleceijdedlkaaPlays13a
import Derived.Test.YtgleceijdedlkaaOnce13
namespace Go.Proofs.Ytgleceijdedlkaa
set_option linter.unusedSectionVars false
set_option linter.unusedVariables false
set_option linter.unusedSimpArgs false
open Go.RowKit
set_option linter.unusedVariables false
set_option linter.unusedSimpArgs false
def encP (s : Bool × Int × Int) : List Value := [.bool s.1, .int .i64 s.2.1, .int .u64 s.2.2]
def okP (s : Bool × Int × Int) : Prop := okI s.2.1 ∧ (Lit.int .u64 s.2.2).wf = true
theorem drYes (V : Lives) (p : Int × Int) (h : aget V p.1 = some p) : drE V p.1 p.2 = 0 ∧ drV V p.1 p.2 = adel V p.1 := by
  unfold drE drV
  rw [if_pos h, if_pos h]
  exact ⟨rfl, rfl⟩
theorem drNo (V : Lives) (p : Int × Int) (h : aget V p.1 ≠ some p) : drE V p.1 p.2 = 130 ∧ drV V p.1 p.2 = V := by
  unfold drE drV
  rw [if_neg h, if_neg h]
  exact ⟨rfl, rfl⟩
theorem mk_neg (L : Lasts) (V : Lives) (s : Int) (h0 : s < 0) : mkH L V s = (0, 0) ∧ mkE V s = 2 ∧ mkL L V s = L ∧ mkV L V s = V := by
  have hk : mkOk V s = false := by
    unfold mkOk
    rw [decide_eq_false (by omega : ¬ 0 ≤ s)]
    rfl
  unfold mkH mkE mkL mkV
  rw [hk]
  simp
  omega
section
variable {w0 w : World} {a b c : Nat × Obj} {R : Res}
theorem SepK.perm3 (h : SepK w0 w [a, b, c] R) : SepK w0 w [c, a, b] R := h.drop _ (by intro p hp; simp at hp ⊢; rcases hp with h | h | h <;> simp [h])
theorem SepK.perm3' (h : SepK w0 w [c, a, b] R) : SepK w0 w [a, b, c] R := h.drop _ (by intro p hp; simp at hp ⊢; rcases hp with h | h | h <;> simp [h])
end
theorem rowat0 {w0 w : World} {K : List (Nat × Obj)} {U : Res} {bo oo n c : Nat} {al : List (Int × Int)} (h : SepK w0 w K (star (rowR 30 2 (.slice (some ⟨bo, oo, none⟩) n c) (al.map encH)) U)) {m : Nat} {p : Int × Int} (hp : al[m]? = some p) :
    w.cell? ⟨bo, oo + m * 2, none⟩ = some (.int .i64 p.1) ∧ w.cell? ⟨bo, oo + m * 2 + 1, none⟩ = some (.int .u64 p.2) := by
  obtain ⟨A, c', e, hr⟩ := h.row
  cases e
  obtain ⟨b', o', e, hc⟩ := hr m (encH p) (by rw [List.getElem?_map, hp]; rfl)
  cases e
  exact ⟨hc 0 _ rfl, hc 1 _ rfl⟩
set_option maxRecDepth 100000 in
set_option maxHeartbeats 8000000 in
theorem plays13_walk (A : Option Addr) (c : Nat) (ls : List (Bool × Int × Int)) (w : World) (hl : RowsAt w A 3 (ls.map encP)) (hs : ∀ s ∈ ls, okP s) :
    Calls Try.prog 8 #[.slice A ls.length c] w fun e w' => e = .returned (.bool true) ∧ Upd [] w w' := by
  by_cases c1 : (300 : Int) < ls.length
  · have z1 : decide ((300 : Int) < ls.length) = true := decide_eq_true c1
    go_enter Try.func8, Try.ntmps8
    go_wp2_with (go_at_call 17; (with_reducible refine (works13 _).mono ?_); rintro e w1 ⟨rfl, u1⟩)
    go_ret
    exact ⟨rfl, u1⟩
  have z1 : decide ((300 : Int) < ls.length) = false := decide_eq_false c1
  go_enter Try.func8, Try.ntmps8
  go_wp2_with fail
  refine (tNew (SepK.start w)).mono ?_
  rintro e w1 ⟨t, rfl, h1⟩
  have h2 := ((h1.alloc (rblk (.slice none 0 0) (.slice none 0 0))).row0 30 2).row0 30 2
  go_wp2_with fail
  generalize hr : w1.heap.size = r at h2 ⊢
  clear hr h1
  go_loopg [5] ls.length (fun kq v5 w' => ∃ (i : Nat) (L : Lasts) (V : Lives) (l : List (Int × Int)) (vL vA : Value), v5 = .int .i64 (i : Int) ∧ kq + i = ls.length ∧ SepK w w' [(r, rblk vL vA)] (star (rowR 30 2 vL (l.map encH)) (star (rowR 30 2 vA (L.map encH)) (star (tabR t L V) emp))) ∧ Pl i L V l)
  case atStart => exact ⟨0, [], [], [], _, _, rfl, rfl, h2, Pl.start⟩
  case round =>
    clear h2
    obtain ⟨i, L, V, l, vL, vA, rfl, hk, hS, hP⟩ := hrel
    obtain rfl : gk = ls.length - i := by omega
    by_cases hi : i < ls.length
    · have z4 : decide ((i : Int) < (ls.length : Int)) = true := decide_eq_true (by omega)
      obtain ⟨s, hx⟩ : ∃ x, ls[i]? = some x := ⟨ls[i], List.getElem?_eq_getElem hi⟩
      obtain ⟨b, off, rfl, hc⟩ := (hl.keep hS.u) i (encP s) (by rw [List.getElem?_map, hx]; rfl)
      have k0 : wr.cell? ⟨b, off + i * 3, none⟩ = some (.bool s.1) := hc 0 _ rfl
      have k1 : wr.cell? ⟨b, off + i * 3 + 1, none⟩ = some (.int .i64 s.2.1) := hc 1 _ rfl
      have k2 : wr.cell? ⟨b, off + i * 3 + 2, none⟩ = some (.int .u64 s.2.2) := hc 2 _ rfl
      have hso := hs _ (List.mem_of_getElem? hx)
      clear hc hx
      have hll := hP.len
      have hlla := hP.llen
      have hlv := hP.vlen
      have hX := (hS.alloc (.cells #[.bool s.1, .int .i64 s.2.1, .int .u64 s.2.2] 28)).alloc (.cells #[.int .i64 s.2.1, .int .u64 s.2.2] 30)
      simp only [alloc_size] at hX
      have lr := lt_of_heap (hS.blk List.mem_cons_self)
      clear hS
      go_upto_if 40 with fail
      clear k0 k1 k2
      generalize hwx : (wr.alloc (.cells #[.bool s.1, .int .i64 s.2.1, .int .u64 s.2.2] 28)).alloc (.cells #[.int .i64 s.2.1, .int .u64 s.2.2] 30) = wx at hX ⊢
      have hKr : ∀ p ∈ [(wr.heap.size + 1, Obj.cells #[.int .i64 s.2.1, .int .u64 s.2.2] 30 (0, 0)), (wr.heap.size, Obj.cells #[.bool s.1, .int .i64 s.2.1, .int .u64 s.2.2] 28 (0, 0))], p.1 ≠ r := by
        intro p hp
        simp at hp
        rcases hp with rfl | rfl <;> simp <;> omega
      generalize hb7 : wr.heap.size + 1 = b7 at hX hKr ⊢
      generalize hb6 : wr.heap.size = b6 at hX hKr hb7 ⊢
      clear hwx hb6 hb7 lr
      go_cut [] (fun w' => ∃ (L : Lasts) (V : Lives) (l : List (Int × Int)) (vL vA : Value), SepK w w' [(b7, Obj.cells #[.int .i64 s.2.1, .int .u64 s.2.2] 30 (0, 0)), (b6, Obj.cells #[.bool s.1, .int .i64 s.2.1, .int .u64 s.2.2] 28 (0, 0)), (r, rblk vL vA)] (star (rowR 30 2 vL (l.map encH)) (star (rowR 30 2 vA (L.map encH)) (star (tabR t L V) emp))) ∧ Pl (i + 1) L V l)
      case first =>
        cases hd : s.1
        · have z40 : s.1 = false := hd
          clear hd
          have hh := hX
          have f7 := hh.blk (b := b7) List.mem_cons_self; have k0 := cell_of f7 0; have k1 := cell_of f7 1; have l7 := lt_of_heap f7; have f6 := hh.blk (b := b6) (List.mem_cons_of_mem _ List.mem_cons_self); have k6 := cell_of f6 0; have k61 := cell_of f6 1; have k62 := cell_of f6 2; have l6 := lt_of_heap f6; simp only [List.getElem?_toArray, List.getElem?_cons_zero, List.getElem?_cons_succ] at k0 k1 k6 k61 k62
          go_wp2_with fail
          refine (tMake hh.pull2 s.2.1 hso.1).mono ?_
          rintro e wa ⟨rfl, ha0⟩
          clear hX
          replace hh := ha0.push2
          clear f7 k0 k1 l7 f6 k6 k61 k62 l6
          clear ha0
          by_cases h0 : s.2.1 < 0
          · obtain ⟨e1, e2, e3, e4⟩ := mk_neg L V s.2.1 h0
            rw [e1, e2]
            rw [e3, e4] at hh
            clear e1 e2 e3 e4
            have h8 := hh.alloc (.cells #[.int .i64 0, .int .u64 0] 30)
            have f7 := hh.blk (b := b7) List.mem_cons_self; have k0 := cell_of f7 0; have k1 := cell_of f7 1; have l7 := lt_of_heap f7; have f6 := hh.blk (b := b6) (List.mem_cons_of_mem _ List.mem_cons_self); have k6 := cell_of f6 0; have k61 := cell_of f6 1; have k62 := cell_of f6 2; have l6 := lt_of_heap f6; simp only [List.getElem?_toArray, List.getElem?_cons_zero, List.getElem?_cons_succ] at k0 k1 k6 k61 k62
            go_wp2_with fail
            refine (rMake_neg h8 s.2.1 h0).mono ?_
            rintro e wb ⟨rfl, hb'⟩
            have hne := fun w => neq30 0 0 0 0 w
            simp only [decide_true, Bool.not_true] at hne
            clear f7 k0 k1 l7 f6 k6 k61 k62 l6
            have f8 := hb'.blk (b := wa.heap.size) List.mem_cons_self; have k8 := cell_of f8 0; have k81 := cell_of f8 1; have l8 := lt_of_heap f8; simp only [List.getElem?_toArray, List.getElem?_cons_zero, List.getElem?_cons_succ] at k8 k81
            go_wp2_with fail
            go_meet
            case rel => exact ⟨L, V, l, vL, vA, (hb'.upd ((Upd.refl [] wb).alloc _)).drop _ (fun p hp => List.mem_cons_of_mem _ hp), hP.more⟩
          · rcases hP.at_ s.2.1 with ⟨hv, ha⟩ | ⟨j, q, hv, ha, hq, hqs⟩
            · obtain ⟨e1, e2, e3, e4⟩ := mk_yes L V s.2.1 (by omega) hv
              rw [e1, e2]
              rw [e3, e4] at hh
              clear e1 e2 e3 e4
              obtain ⟨gg, hgg⟩ : ∃ gg, gg = genOf L s.2.1 := ⟨_, rfl⟩
              have hgH : Unit → genOf L s.2.1 = gg := fun _ => hgg.symm
              have h8 := hh.alloc (.cells #[.int .i64 s.2.1, .int .u64 (genOf L s.2.1)] 30)
              have f7 := hh.blk (b := b7) List.mem_cons_self; have k0 := cell_of f7 0; have k1 := cell_of f7 1; have l7 := lt_of_heap f7; have f6 := hh.blk (b := b6) (List.mem_cons_of_mem _ List.mem_cons_self); have k6 := cell_of f6 0; have k61 := cell_of f6 1; have k62 := cell_of f6 2; have l6 := lt_of_heap f6; simp only [List.getElem?_toArray, List.getElem?_cons_zero, List.getElem?_cons_succ] at k0 k1 k6 k61 k62
              have l8r : wa.heap.size ≠ r := Nat.ne_of_gt (lt_of_heap (hh.blk (b := r) (List.mem_cons_of_mem _ (List.mem_cons_of_mem _ List.mem_cons_self))))
              go_wp2_with fail
              have h9 := h8.drop ((r, rblk vL vA) :: (wa.heap.size, Obj.cells #[.int .i64 s.2.1, .int .u64 (genOf L s.2.1)] 30 (0, 0)) :: [(b7, Obj.cells #[.int .i64 s.2.1, .int .u64 s.2.2] 30 (0, 0)), (b6, Obj.cells #[.bool s.1, .int .i64 s.2.1, .int .u64 s.2.2] 28 (0, 0))]) (by intro p hp; simp at hp ⊢; rcases hp with h | h | h | h <;> simp [h])
              refine (rMake h9 (by intro p hp; rcases List.mem_cons.1 hp with rfl | hp; exact l8r; exact hKr p hp) s.2.1 (by omega) ha (by omega) (by omega)).mono ?_
              rintro e wb ⟨vL', vA', kk, hins, rfl, hb'⟩
              clear h8 h9 hgg l8r
              have hne := fun w => neq30 s.2.1 (genOf L s.2.1) s.2.1 (genOf L s.2.1) w
              simp only [decide_true, Bool.not_true] at hne
              clear f7 k0 k1 l7 f6 k6 k61 k62 l6
              have f8 := hb'.blk (b := wa.heap.size) (List.mem_cons_of_mem _ List.mem_cons_self); have k8 := cell_of f8 0; have k81 := cell_of f8 1; have l8 := lt_of_heap f8; simp only [List.getElem?_toArray, List.getElem?_cons_zero, List.getElem?_cons_succ] at k8 k81
              go_wp2_with fail
              go_meet
              case rel => exact ⟨_, _, _, vL', vA', ((hb'.upd ((Upd.refl [] wb).alloc _)).drop ([(b7, Obj.cells #[.int .i64 s.2.1, .int .u64 s.2.2] 30 (0, 0)), (b6, Obj.cells #[.bool s.1, .int .i64 s.2.1, .int .u64 s.2.2] 28 (0, 0)), (r, rblk vL' vA')]) (by intro p hp; simp at hp ⊢; rcases hp with h | h | h <;> simp [h])), hP.made s.2.1 hv kk hins⟩
            · obtain ⟨e1, e2, e3, e4⟩ := mk_no L V s.2.1 (by omega) (by rw [hv]; simp)
              rw [e1, e2]
              rw [e3, e4] at hh
              clear e1 e2 e3 e4
              have h8 := hh.alloc (.cells #[.int .i64 0, .int .u64 0] 30)
              have f7 := hh.blk (b := b7) List.mem_cons_self; have k0 := cell_of f7 0; have k1 := cell_of f7 1; have l7 := lt_of_heap f7; have f6 := hh.blk (b := b6) (List.mem_cons_of_mem _ List.mem_cons_self); have k6 := cell_of f6 0; have k61 := cell_of f6 1; have k62 := cell_of f6 2; have l6 := lt_of_heap f6; simp only [List.getElem?_toArray, List.getElem?_cons_zero, List.getElem?_cons_succ] at k0 k1 k6 k61 k62
              go_wp2_with fail
              refine (rMake_there h8 (List.mem_cons_of_mem _ (List.mem_cons_of_mem _ (List.mem_cons_of_mem _ List.mem_cons_self))) s.2.1 (by omega) (by rw [ha]; omega) (by omega)).mono ?_
              rintro e wb ⟨rfl, hb'⟩
              have hne := fun w => neq30 0 0 0 0 w
              simp only [decide_true, Bool.not_true] at hne
              clear f7 k0 k1 l7 f6 k6 k61 k62 l6
              have f8 := hb'.blk (b := wa.heap.size) List.mem_cons_self; have k8 := cell_of f8 0; have k81 := cell_of f8 1; have l8 := lt_of_heap f8; simp only [List.getElem?_toArray, List.getElem?_cons_zero, List.getElem?_cons_succ] at k8 k81
              go_wp2_with fail
              go_meet
              case rel => exact ⟨L, V, l, vL, vA, (hb'.upd ((Upd.refl [] wb).alloc _)).drop _ (fun p hp => List.mem_cons_of_mem _ hp), hP.more⟩
        · have z40 : s.1 = true := hd
          clear hd
          have hh := hX.upd (Upd.refl [] _).drew
          have f7 := hh.blk (b := b7) List.mem_cons_self; have k0 := cell_of f7 0; have k1 := cell_of f7 1; have l7 := lt_of_heap f7; have f6 := hh.blk (b := b6) (List.mem_cons_of_mem _ List.mem_cons_self); have k6 := cell_of f6 0; have k61 := cell_of f6 1; have k62 := cell_of f6 2; have l6 := lt_of_heap f6; simp only [List.getElem?_toArray, List.getElem?_cons_zero, List.getElem?_cons_succ] at k0 k1 k6 k61 k62
          by_cases hyes : aget V s.2.1 = some (s.2.1, s.2.2)
          · rcases hP.at_ s.2.1 with ⟨hv, ha⟩ | ⟨j, q, hv, ha, hq, hqs⟩
            · rw [hyes] at hv
              cases hv
            · have hpq : q = (s.2.1, s.2.2) := by rw [hyes] at hv; exact (Option.some.inj hv).symm
              subst hpq
              obtain ⟨e1, e2⟩ := drYes V (s.2.1, s.2.2) hyes
              simp only at e1 e2
              go_wp2_with fail
              go_region_held3 (fun w' => w'.cell? ⟨b7, 0, none⟩ = some (.int .i64 s.2.1) ∧ w'.cell? ⟨b7, 1, none⟩ = some (.int .u64 s.2.2)) (exact ⟨k0, k1⟩)
                (first
                  | (go_at_call 20; refine (tDrop hh.pull2 s.2.1 s.2.2 hso.1).mono ?_; rw [e1]; rintro e wa ⟨rfl, ha'⟩; replace hh := ha'.push2; clear f7 k0 k1 l7 f6 k6 k61 k62 l6; have f7 := hh.blk (b := b7) List.mem_cons_self; have k0 := cell_of f7 0; have k1 := cell_of f7 1; have l7 := lt_of_heap f7; have f6 := hh.blk (b := b6) (List.mem_cons_of_mem _ List.mem_cons_self); have k6 := cell_of f6 0; have k61 := cell_of f6 1; have k62 := cell_of f6 2; have l6 := lt_of_heap f6; simp only [List.getElem?_toArray, List.getElem?_cons_zero, List.getElem?_cons_succ] at k0 k1 k6 k61 k62)
                  | (go_at_call 42; refine (rDrop_ok hh.perm3 hKr (s.2.1, s.2.2) j hq ha (by omega) hP.nd).mono ?_; rintro e wb ⟨vL', rfl, hb'⟩; replace hh := hb'.perm3'; clear f7 k0 k1 l7 f6 k6 k61 k62 l6; have f7 := hh.blk (b := b7) List.mem_cons_self; have k0 := cell_of f7 0; have k1 := cell_of f7 1; have l7 := lt_of_heap f7; have f6 := hh.blk (b := b6) (List.mem_cons_of_mem _ List.mem_cons_self); have k6 := cell_of f6 0; have k61 := cell_of f6 1; have k62 := cell_of f6 2; have l6 := lt_of_heap f6; simp only [List.getElem?_toArray, List.getElem?_cons_zero, List.getElem?_cons_succ] at k0 k1 k6 k61 k62))
              all_goals
                rw [e2] at hh
                go_wp2_with fail
                go_meet
                case rel => exact ⟨_, _, _, _, _, hh, (hP.drop _ j hq).more⟩
          · obtain ⟨e1, e2⟩ := drNo V (s.2.1, s.2.2) hyes
            simp only at e1 e2
            have hpl : (s.2.1, s.2.2) ∉ l := fun hm => hyes ((hP.mem _).1 hm)
            go_wp2_with fail
            go_region_held3 (fun w' => w'.cell? ⟨b7, 0, none⟩ = some (.int .i64 s.2.1) ∧ w'.cell? ⟨b7, 1, none⟩ = some (.int .u64 s.2.2)) (exact ⟨k0, k1⟩)
              (first
                | (go_at_call 20; refine (tDrop hh.pull2 s.2.1 s.2.2 hso.1).mono ?_; rw [e1, e2]; rintro e wa ⟨rfl, ha'⟩; replace hh := ha'.push2; clear f7 k0 k1 l7 f6 k6 k61 k62 l6; have f7 := hh.blk (b := b7) List.mem_cons_self; have k0 := cell_of f7 0; have k1 := cell_of f7 1; have l7 := lt_of_heap f7; have f6 := hh.blk (b := b6) (List.mem_cons_of_mem _ List.mem_cons_self); have k6 := cell_of f6 0; have k61 := cell_of f6 1; have k62 := cell_of f6 2; have l6 := lt_of_heap f6; simp only [List.getElem?_toArray, List.getElem?_cons_zero, List.getElem?_cons_succ] at k0 k1 k6 k61 k62)
                | (go_at_call 42; refine (rDrop_no hh (List.mem_cons_of_mem _ (List.mem_cons_of_mem _ List.mem_cons_self)) (s.2.1, s.2.2) hpl (by omega) hP.nd).mono ?_; rintro e wb ⟨rfl, hb'⟩; replace hh := hb'; clear f7 k0 k1 l7 f6 k6 k61 k62 l6; have f7 := hh.blk (b := b7) List.mem_cons_self; have k0 := cell_of f7 0; have k1 := cell_of f7 1; have l7 := lt_of_heap f7; have f6 := hh.blk (b := b6) (List.mem_cons_of_mem _ List.mem_cons_self); have k6 := cell_of f6 0; have k61 := cell_of f6 1; have k62 := cell_of f6 2; have l6 := lt_of_heap f6; simp only [List.getElem?_toArray, List.getElem?_cons_zero, List.getElem?_cons_succ] at k0 k1 k6 k61 k62))
            all_goals
              go_wp2_with fail
              go_meet
              case rel => exact ⟨_, _, _, _, _, hh, hP.more⟩
      case rest =>
        clear hX hP hll hlla hlv
        obtain ⟨L, V, l, vL, vA, hX, hP⟩ := hcut
        have hll := hP.len
        have hlla := hP.llen
        have hlv := hP.vlen
        rcases hP.at_ s.2.1 with ⟨hv, ha⟩ | ⟨j, q, hv, ha, hq, hqs⟩
        · skip
          have hX2 := hX
          have f7 := hX2.blk (b := b7) List.mem_cons_self; have k0 := cell_of f7 0; have k1 := cell_of f7 1; have l7 := lt_of_heap f7; have f6 := hX2.blk (b := b6) (List.mem_cons_of_mem _ List.mem_cons_self); have k6 := cell_of f6 0; have k61 := cell_of f6 1; have k62 := cell_of f6 2; have l6 := lt_of_heap f6; simp only [List.getElem?_toArray, List.getElem?_cons_zero, List.getElem?_cons_succ] at k0 k1 k6 k61 k62
          go_wp2_with fail
          refine (tOf hX2.pull2 s.2.1 hso.1).mono ?_
          rw [hv]
          simp only [Option.getD_none, Option.isSome_none]
          rintro e wa ⟨rfl, ha0⟩
          clear f7 k0 k1 l7 f6 k6 k61 k62 l6
          clear hX hX2
          have hh := (ha0.push2).alloc (.cells #[.int .i64 0, .int .u64 0] 30)
          clear ha0
          obtain ⟨AL, cL, rfl, -⟩ := hh.parts
          rw [List.length_map] at hh
          have f7 := hh.blk (b := b7) (List.mem_cons_of_mem _ List.mem_cons_self); have k0 := cell_of f7 0; have k1 := cell_of f7 1; have l7 := lt_of_heap f7; have f6 := hh.blk (b := b6) (List.mem_cons_of_mem _ (List.mem_cons_of_mem _ List.mem_cons_self)); have k61 := cell_of f6 1; have l6 := lt_of_heap f6; have f12 := hh.blk List.mem_cons_self; have kx := cell_of f12 0; have kx1 := cell_of f12 1; have lx := lt_of_heap f12; have fr := hh.blk (b := r) (List.mem_cons_of_mem _ (List.mem_cons_of_mem _ (List.mem_cons_of_mem _ List.mem_cons_self))); have kr := cell_of fr 0; have lr := lt_of_heap fr; simp only [List.getElem?_toArray, List.getElem?_cons_zero, List.getElem?_cons_succ] at k0 k1 k61 kx kx1 kr
          go_wp2_with fail
          refine (rAt hh (List.mem_cons_of_mem _ (List.mem_cons_of_mem _ (List.mem_cons_of_mem _ List.mem_cons_self))) s.2.1 (by omega)).mono ?_
          rintro e wb ⟨rfl, rfl⟩
          have zj : decide ((0 : Int) ≤ atI l s.2.1) = false := by rw [ha]; rfl
          clear ha
          generalize atI l s.2.1 = z at zj ⊢
          go_wp2_with fail
          refine (tAll hh.pull2 (by omega)).mono ?_
          rintro e wc2 ⟨v, rfl, hc2⟩
          rw [hP.live hh.pull2.liveNd] at hc2
          clear f7 k0 k1 l7 f6 k61 l6 f12 kx kx1 lx fr kr lr
          replace hh := hc2
          clear hc2
          generalize hb12 : wa.heap.size = b12 at hh ⊢
          clear hb12
          obtain ⟨Av, cv, rfl, -⟩ := hh.parts
          rw [List.length_map] at hh
          have f7 := hh.blk (b := b7) (List.mem_cons_of_mem _ List.mem_cons_self); have k0 := cell_of f7 0; have k1 := cell_of f7 1; have l7 := lt_of_heap f7; have f6 := hh.blk (b := b6) (List.mem_cons_of_mem _ (List.mem_cons_of_mem _ List.mem_cons_self)); have k61 := cell_of f6 1; have l6 := lt_of_heap f6; have f12 := hh.blk List.mem_cons_self; have kx := cell_of f12 0; have kx1 := cell_of f12 1; have lx := lt_of_heap f12; have fr := hh.blk (b := r) (List.mem_cons_of_mem _ (List.mem_cons_of_mem _ (List.mem_cons_of_mem _ List.mem_cons_self))); have kr := cell_of fr 0; have lr := lt_of_heap fr; simp only [List.getElem?_toArray, List.getElem?_cons_zero, List.getElem?_cons_succ] at k0 k1 k61 kx kx1 kr
          skip
          have hne := fun w => neq30 0 0 0 0 w
          simp only [decide_true, Bool.not_true] at hne
          have ylen : ((l.length : Int) != (l.length : Int)) = false := by simp
          have hlv2 : decide ((s.2.1, s.2.2) ∈ l) = decide (aget V s.2.1 = some (s.2.1, s.2.2)) := decide_eq_decide.2 (hP.mem _)
          go_upto_region 20 with fail
          go_cut [128] (fun v128 w' => v128 = .bool false ∧ SepK w w' [(b12, Obj.cells #[.int .i64 0, .int .u64 0] 30 (0, 0)), (b7, Obj.cells #[.int .i64 s.2.1, .int .u64 s.2.2] 30 (0, 0)), (b6, Obj.cells #[.bool s.1, .int .i64 s.2.1, .int .u64 s.2.2] 28 (0, 0)), (r, rblk (.slice AL l.length cL) vA)] (star (rowR 30 2 (.slice Av l.length cv) (l.map encH)) (star (tabR t L V) (star (rowR 30 2 (.slice AL l.length cL) (l.map encH)) (star (rowR 30 2 vA (L.map encH)) emp)))))
          case first =>
            replace hh := hh.upd (Upd.refl [] _).drew
            clear f7 k0 k1 l7 f6 k61 l6 f12 kx kx1 lx fr kr lr
            have f7 := hh.blk (b := b7) (List.mem_cons_of_mem _ List.mem_cons_self); have k0 := cell_of f7 0; have k1 := cell_of f7 1; have l7 := lt_of_heap f7; have f6 := hh.blk (b := b6) (List.mem_cons_of_mem _ (List.mem_cons_of_mem _ List.mem_cons_self)); have k61 := cell_of f6 1; have l6 := lt_of_heap f6; have f12 := hh.blk List.mem_cons_self; have kx := cell_of f12 0; have kx1 := cell_of f12 1; have lx := lt_of_heap f12; have fr := hh.blk (b := r) (List.mem_cons_of_mem _ (List.mem_cons_of_mem _ (List.mem_cons_of_mem _ List.mem_cons_self))); have kr := cell_of fr 0; have lr := lt_of_heap fr; simp only [List.getElem?_toArray, List.getElem?_cons_zero, List.getElem?_cons_succ] at k0 k1 k61 kx kx1 kr
            obtain ⟨bb, hbb⟩ : ∃ bb, bb = decide (aget V s.2.1 = some (s.2.1, s.2.2)) := ⟨_, rfl⟩
            have ybb : (bb != bb) = false := by simp
            rw [← hbb] at hlv2
            refine wp_region_held_drew (S := fun w' => w'.cell? ⟨b7, 0, none⟩ = some (.int .i64 s.2.1) ∧ w'.cell? ⟨b7, 1, none⟩ = some (.int .u64 s.2.2) ∧ w'.cell? ⟨b12, 0, none⟩ = some (.int .i64 0) ∧ w'.cell? ⟨b12, 1, none⟩ = some (.int .u64 0) ∧ w'.cell? ⟨r, 0, none⟩ = some (.slice AL l.length cL) ) (by kernel_rfl) (by exact ⟨k0, k1, kx, kx1, kr⟩) (fun hHeld => ?_)
            refine wpAnyH_take (i := 0) (oi := ⟨some 83, _, _, _, _, _⟩) (v := ?v1) rfl (by kernel_rfl) (by kernel_rfl) (by kernel_rfl) (fun _ _ _ h => h) (Or.inl ⟨by rfl, ?hy1⟩) hHeld ?rest1
            case hy1 => (intro wq hSw; (try dsimp only at hSw); go_simp; (try with_reducible rfl))
            try simp only [Act.put, List.setIfInBounds_toArray, List.set_cons_zero, List.set_cons_succ]
            refine wpAnyH_take (i := 1) (oi := ⟨some 84, _, _, _, _, _⟩) (v := ?v2) rfl (by kernel_rfl) (by kernel_rfl) (by kernel_rfl) (fun _ _ _ h => h) (Or.inl ⟨by rfl, ?hy2⟩) hHeld ?rest2
            case hy2 => (intro wq hSw; (try dsimp only at hSw); go_simp; (try with_reducible rfl))
            try simp only [Act.put, List.setIfInBounds_toArray, List.set_cons_zero, List.set_cons_succ]
            refine wpAnyH_take (i := 3) (oi := ⟨some 86, _, _, _, _, _⟩) (v := ?v3) rfl (by kernel_rfl) (by kernel_rfl) (by kernel_rfl) (fun _ _ _ h => h) (Or.inl ⟨by rfl, ?hy3⟩) hHeld ?rest3
            case hy3 => (intro wq hSw; (try dsimp only at hSw); go_simp; (try with_reducible rfl))
            try simp only [Act.put, List.setIfInBounds_toArray, List.set_cons_zero, List.set_cons_succ]
            refine wpAnyH_take (i := 4) (oi := ⟨some 87, _, _, _, _, _⟩) (v := ?v4) rfl (by kernel_rfl) (by kernel_rfl) (by kernel_rfl) (fun _ _ _ h => h) (Or.inl ⟨by rfl, ?hy4⟩) hHeld ?rest4
            case hy4 => (intro wq hSw; (try dsimp only at hSw); go_simp; (try with_reducible rfl))
            try simp only [Act.put, List.setIfInBounds_toArray, List.set_cons_zero, List.set_cons_succ]
            refine wpAnyH_ready (rs := [2]) (by kernel_rfl) (by simp) ?_
            refine AllReadyH.cons (o := ⟨some 85, _, _, _, _, _⟩) rfl (fun K hK => ?_) AllReadyH.nil
            go_simp
            (refine (tLives hh.swap s.2.1 s.2.2 hso.1).mono ?_; rw [← hbb]; rintro e wd ⟨rfl, hd'⟩; replace hh := hd'.swap; clear f7 k0 k1 l7 f6 k61 l6 f12 kx kx1 lx fr kr lr; have f7 := hh.blk (b := b7) (List.mem_cons_of_mem _ List.mem_cons_self); have k0 := cell_of f7 0; have k1 := cell_of f7 1; have l7 := lt_of_heap f7; have f6 := hh.blk (b := b6) (List.mem_cons_of_mem _ (List.mem_cons_of_mem _ List.mem_cons_self)); have k61 := cell_of f6 1; have l6 := lt_of_heap f6; have f12 := hh.blk List.mem_cons_self; have kx := cell_of f12 0; have kx1 := cell_of f12 1; have lx := lt_of_heap f12; have fr := hh.blk (b := r) (List.mem_cons_of_mem _ (List.mem_cons_of_mem _ (List.mem_cons_of_mem _ List.mem_cons_self))); have kr := cell_of fr 0; have lr := lt_of_heap fr; simp only [List.getElem?_toArray, List.getElem?_cons_zero, List.getElem?_cons_succ] at k0 k1 k61 kx kx1 kr)
            refine hK.out _ _ (by exact ⟨k0, k1, kx, kx1, kr⟩) (fun hHeld => ?_)
            clear hK K
            try simp only [Act.put, List.setIfInBounds_toArray, List.set_cons_zero, List.set_cons_succ]
            refine wpAnyH_ready (rs := [5]) (by kernel_rfl) (by simp) ?_
            refine AllReadyH.cons (o := ⟨some 88, _, _, _, _, _⟩) rfl (fun K hK => ?_) AllReadyH.nil
            go_simp
            (refine (rLives hh.pull2 (List.mem_cons_of_mem _ (List.mem_cons_of_mem _ (List.mem_cons_of_mem _ List.mem_cons_self))) (s.2.1, s.2.2) (by omega) hP.nd).mono ?_; rw [hlv2]; rintro e we ⟨rfl, he'⟩; replace hh := he'.push2; clear f7 k0 k1 l7 f6 k61 l6 f12 kx kx1 lx fr kr lr; have f7 := hh.blk (b := b7) (List.mem_cons_of_mem _ List.mem_cons_self); have k0 := cell_of f7 0; have k1 := cell_of f7 1; have l7 := lt_of_heap f7; have f6 := hh.blk (b := b6) (List.mem_cons_of_mem _ (List.mem_cons_of_mem _ List.mem_cons_self)); have k61 := cell_of f6 1; have l6 := lt_of_heap f6; have f12 := hh.blk List.mem_cons_self; have kx := cell_of f12 0; have kx1 := cell_of f12 1; have lx := lt_of_heap f12; have fr := hh.blk (b := r) (List.mem_cons_of_mem _ (List.mem_cons_of_mem _ (List.mem_cons_of_mem _ List.mem_cons_self))); have kr := cell_of fr 0; have lr := lt_of_heap fr; simp only [List.getElem?_toArray, List.getElem?_cons_zero, List.getElem?_cons_succ] at k0 k1 k61 kx kx1 kr)
            refine hK.out _ _ (by exact ⟨k0, k1, kx, kx1, kr⟩) (fun hHeld => ?_)
            clear hK K
            try simp only [Act.put, List.setIfInBounds_toArray, List.set_cons_zero, List.set_cons_succ]
            refine wpAnyH_take (i := 6) (oi := ⟨some 89, _, _, _, _, _⟩) (v := ?v5) rfl (by kernel_rfl) (by kernel_rfl) (by kernel_rfl) (fun _ _ _ h => h) (Or.inl ⟨by rfl, ?hy5⟩) hHeld ?rest5
            case hy5 => (intro wq hSw; (try dsimp only at hSw); go_simp; (try with_reducible rfl))
            try simp only [Act.put, List.setIfInBounds_toArray, List.set_cons_zero, List.set_cons_succ]
            refine wpAnyH_take (i := 7) (oi := ⟨some 90, _, _, _, _, _⟩) (v := ?v6) rfl (by kernel_rfl) (by kernel_rfl) (by kernel_rfl) (fun _ _ _ h => h) (Or.inl ⟨by rfl, ?hy6⟩) hHeld ?rest6
            case hy6 => (intro wq hSw; (try dsimp only at hSw); go_simp; (try with_reducible rfl))
            try simp only [Act.put, List.setIfInBounds_toArray, List.set_cons_zero, List.set_cons_succ]
            refine wpAnyH_take (i := 8) (oi := ⟨some 91, _, _, _, _, _⟩) (v := ?v7) rfl (by kernel_rfl) (by kernel_rfl) (by kernel_rfl) (fun _ _ _ h => h) (Or.inl ⟨by rfl, ?hy7⟩) hHeld ?rest7
            case hy7 => (intro wq hSw; (try dsimp only at hSw); go_simp; (try with_reducible rfl))
            try simp only [Act.put, List.setIfInBounds_toArray, List.set_cons_zero, List.set_cons_succ]
            refine wpAnyH_take (i := 9) (oi := ⟨some 92, _, _, _, _, _⟩) (v := ?v8) rfl (by kernel_rfl) (by kernel_rfl) (by kernel_rfl) (fun _ _ _ h => h) (Or.inl ⟨by rfl, ?hy8⟩) hHeld ?rest8
            case hy8 => (intro wq hSw; (try dsimp only at hSw); go_simp; (try with_reducible rfl))
            try simp only [Act.put, List.setIfInBounds_toArray, List.set_cons_zero, List.set_cons_succ]
            refine wpAnyH_take (i := 10) (oi := ⟨some 93, _, _, _, _, _⟩) (v := ?v9) rfl (by kernel_rfl) (by kernel_rfl) (by kernel_rfl) (fun _ _ _ h => h) (Or.inl ⟨by rfl, ?hy9⟩) hHeld ?rest9
            case hy9 => (intro wq hSw; (try dsimp only at hSw); go_simp; (try with_reducible rfl))
            try simp only [Act.put, List.setIfInBounds_toArray, List.set_cons_zero, List.set_cons_succ]
            refine wpAnyH_take (i := 11) (oi := ⟨some 94, _, _, _, _, _⟩) (v := ?v10) rfl (by kernel_rfl) (by kernel_rfl) (by kernel_rfl) (fun _ _ _ h => h) (Or.inl ⟨by rfl, ?hy10⟩) hHeld ?rest10
            case hy10 => (intro wq hSw; (try dsimp only at hSw); go_simp; (try with_reducible rfl))
            try simp only [Act.put, List.setIfInBounds_toArray, List.set_cons_zero, List.set_cons_succ]
            refine wpAnyH_take (i := 12) (oi := ⟨some 95, _, _, _, _, _⟩) (v := ?v11) rfl (by kernel_rfl) (by kernel_rfl) (by kernel_rfl) (fun _ _ _ h => h) (Or.inl ⟨by rfl, ?hy11⟩) hHeld ?rest11
            case hy11 => (intro wq hSw; (try dsimp only at hSw); go_simp; (try with_reducible rfl))
            try simp only [Act.put, List.setIfInBounds_toArray, List.set_cons_zero, List.set_cons_succ]
            refine wpAnyH_take (i := 13) (oi := ⟨some 96, _, _, _, _, _⟩) (v := ?v12) rfl (by kernel_rfl) (by kernel_rfl) (by kernel_rfl) (fun _ _ _ h => h) (Or.inl ⟨by rfl, ?hy12⟩) hHeld ?rest12
            case hy12 => (intro wq hSw; (try dsimp only at hSw); go_simp; (try with_reducible rfl))
            try simp only [Act.put, List.setIfInBounds_toArray, List.set_cons_zero, List.set_cons_succ]
            refine wpAnyH_take (i := 14) (oi := ⟨some 97, _, _, _, _, _⟩) (v := ?v13) rfl (by kernel_rfl) (by kernel_rfl) (by kernel_rfl) (fun _ _ _ h => h) (Or.inl ⟨by rfl, ?hy13⟩) hHeld ?rest13
            case hy13 => (intro wq hSw; (try dsimp only at hSw); go_simp; (try with_reducible rfl))
            try simp only [Act.put, List.setIfInBounds_toArray, List.set_cons_zero, List.set_cons_succ]
            refine wpAnyH_take (i := 15) (oi := ⟨some 98, _, _, _, _, _⟩) (v := ?v14) rfl (by kernel_rfl) (by kernel_rfl) (by kernel_rfl) (fun _ _ _ h => h) (Or.inl ⟨by rfl, ?hy14⟩) hHeld ?rest14
            case hy14 => (intro wq hSw; (try dsimp only at hSw); go_simp; (try with_reducible rfl))
            try simp only [Act.put, List.setIfInBounds_toArray, List.set_cons_zero, List.set_cons_succ]
            refine wpAnyH_take (i := 16) (oi := ⟨some 99, _, _, _, _, _⟩) (v := undef) rfl (by kernel_rfl) (by kernel_rfl) (by kernel_rfl) (fun _ _ _ h => h) (Or.inr ⟨by rfl, rfl⟩) hHeld ?_
            try simp only [Act.put, List.setIfInBounds_toArray, List.set_cons_zero, List.set_cons_succ]
            refine wpAnyH_take (i := 17) (oi := ⟨some 100, _, _, _, _, _⟩) (v := undef) rfl (by kernel_rfl) (by kernel_rfl) (by kernel_rfl) (fun _ _ _ h => h) (Or.inr ⟨by rfl, rfl⟩) hHeld ?_
            try simp only [Act.put, List.setIfInBounds_toArray, List.set_cons_zero, List.set_cons_succ]
            refine wpAnyH_take (i := 18) (oi := ⟨some 101, _, _, _, _, _⟩) (v := undef) rfl (by kernel_rfl) (by kernel_rfl) (by kernel_rfl) (fun _ _ _ h => h) (Or.inr ⟨by rfl, rfl⟩) hHeld ?_
            try simp only [Act.put, List.setIfInBounds_toArray, List.set_cons_zero, List.set_cons_succ]
            refine wpAnyH_take (i := 19) (oi := ⟨some 102, _, _, _, _, _⟩) (v := undef) rfl (by kernel_rfl) (by kernel_rfl) (by kernel_rfl) (fun _ _ _ h => h) (Or.inr ⟨by rfl, rfl⟩) hHeld ?_
            try simp only [Act.put, List.setIfInBounds_toArray, List.set_cons_zero, List.set_cons_succ]
            refine wpAnyH_take (i := 20) (oi := ⟨some 103, _, _, _, _, _⟩) (v := undef) rfl (by kernel_rfl) (by kernel_rfl) (by kernel_rfl) (fun _ _ _ h => h) (Or.inr ⟨by rfl, rfl⟩) hHeld ?_
            try simp only [Act.put, List.setIfInBounds_toArray, List.set_cons_zero, List.set_cons_succ]
            refine wpAnyH_take (i := 21) (oi := ⟨some 104, _, _, _, _, _⟩) (v := undef) rfl (by kernel_rfl) (by kernel_rfl) (by kernel_rfl) (fun _ _ _ h => h) (Or.inr ⟨by rfl, rfl⟩) hHeld ?_
            try simp only [Act.put, List.setIfInBounds_toArray, List.set_cons_zero, List.set_cons_succ]
            refine wpAnyH_take (i := 22) (oi := ⟨some 105, _, _, _, _, _⟩) (v := undef) rfl (by kernel_rfl) (by kernel_rfl) (by kernel_rfl) (fun _ _ _ h => h) (Or.inr ⟨by rfl, rfl⟩) hHeld ?_
            try simp only [Act.put, List.setIfInBounds_toArray, List.set_cons_zero, List.set_cons_succ]
            refine wpAnyH_take (i := 23) (oi := ⟨some 106, _, _, _, _, _⟩) (v := undef) rfl (by kernel_rfl) (by kernel_rfl) (by kernel_rfl) (fun _ _ _ h => h) (Or.inr ⟨by rfl, rfl⟩) hHeld ?_
            try simp only [Act.put, List.setIfInBounds_toArray, List.set_cons_zero, List.set_cons_succ]
            refine wpAnyH_take (i := 24) (oi := ⟨some 107, _, _, _, _, _⟩) (v := undef) rfl (by kernel_rfl) (by kernel_rfl) (by kernel_rfl) (fun _ _ _ h => h) (Or.inr ⟨by rfl, rfl⟩) hHeld ?_
            try simp only [Act.put, List.setIfInBounds_toArray, List.set_cons_zero, List.set_cons_succ]
            refine wpAnyH_take (i := 25) (oi := ⟨some 108, _, _, _, _, _⟩) (v := ?v15) rfl (by kernel_rfl) (by kernel_rfl) (by kernel_rfl) (fun _ _ _ h => h) (Or.inl ⟨by rfl, ?hy15⟩) hHeld ?rest15
            case hy15 => (intro wq hSw; (try dsimp only at hSw); go_simp; (try with_reducible rfl))
            try simp only [Act.put, List.setIfInBounds_toArray, List.set_cons_zero, List.set_cons_succ]
            refine wpAnyH_take (i := 26) (oi := ⟨some 109, _, _, _, _, _⟩) (v := ?v16) rfl (by kernel_rfl) (by kernel_rfl) (by kernel_rfl) (fun _ _ _ h => h) (Or.inl ⟨by rfl, ?hy16⟩) hHeld ?rest16
            case hy16 => (intro wq hSw; (try dsimp only at hSw); go_simp; (try with_reducible rfl))
            try simp only [Act.put, List.setIfInBounds_toArray, List.set_cons_zero, List.set_cons_succ]
            refine wpAnyH_take (i := 27) (oi := ⟨some 110, _, _, _, _, _⟩) (v := ?v17) rfl (by kernel_rfl) (by kernel_rfl) (by kernel_rfl) (fun _ _ _ h => h) (Or.inl ⟨by rfl, ?hy17⟩) hHeld ?rest17
            case hy17 => (intro wq hSw; (try dsimp only at hSw); go_simp; (try with_reducible rfl))
            try simp only [Act.put, List.setIfInBounds_toArray, List.set_cons_zero, List.set_cons_succ]
            refine wpAnyH_take (i := 28) (oi := ⟨some 111, _, _, _, _, _⟩) (v := ?v18) rfl (by kernel_rfl) (by kernel_rfl) (by kernel_rfl) (fun _ _ _ h => h) (Or.inl ⟨by rfl, ?hy18⟩) hHeld ?rest18
            case hy18 => (intro wq hSw; (try dsimp only at hSw); go_simp; (try with_reducible rfl))
            try simp only [Act.put, List.setIfInBounds_toArray, List.set_cons_zero, List.set_cons_succ]
            refine wpAnyH_take (i := 29) (oi := ⟨some 112, _, _, _, _, _⟩) (v := ?v19) rfl (by kernel_rfl) (by kernel_rfl) (by kernel_rfl) (fun _ _ _ h => h) (Or.inl ⟨by rfl, ?hy19⟩) hHeld ?rest19
            case hy19 => (intro wq hSw; (try dsimp only at hSw); go_simp; (try with_reducible rfl))
            try simp only [Act.put, List.setIfInBounds_toArray, List.set_cons_zero, List.set_cons_succ]
            refine wpAnyH_take (i := 30) (oi := ⟨some 113, _, _, _, _, _⟩) (v := ?v20) rfl (by kernel_rfl) (by kernel_rfl) (by kernel_rfl) (fun _ _ _ h => h) (Or.inl ⟨by rfl, ?hy20⟩) hHeld ?rest20
            case hy20 => (intro wq hSw; (try dsimp only at hSw); go_simp; (try with_reducible rfl))
            try simp only [Act.put, List.setIfInBounds_toArray, List.set_cons_zero, List.set_cons_succ]
            refine wpAnyH_take (i := 31) (oi := ⟨some 114, _, _, _, _, _⟩) (v := ?v21) rfl (by kernel_rfl) (by kernel_rfl) (by kernel_rfl) (fun _ _ _ h => h) (Or.inl ⟨by rfl, ?hy21⟩) hHeld ?rest21
            case hy21 => (intro wq hSw; (try dsimp only at hSw); go_simp; (try with_reducible rfl))
            try simp only [Act.put, List.setIfInBounds_toArray, List.set_cons_zero, List.set_cons_succ]
            refine wpAnyH_take (i := 32) (oi := ⟨some 115, _, _, _, _, _⟩) (v := ?v22) rfl (by kernel_rfl) (by kernel_rfl) (by kernel_rfl) (fun _ _ _ h => h) (Or.inl ⟨by rfl, ?hy22⟩) hHeld ?rest22
            case hy22 => (intro wq hSw; (try dsimp only at hSw); go_simp; (try with_reducible rfl))
            try simp only [Act.put, List.setIfInBounds_toArray, List.set_cons_zero, List.set_cons_succ]
            refine wpAnyH_take (i := 33) (oi := ⟨some 116, _, _, _, _, _⟩) (v := ?v23) rfl (by kernel_rfl) (by kernel_rfl) (by kernel_rfl) (fun _ _ _ h => h) (Or.inl ⟨by rfl, ?hy23⟩) hHeld ?rest23
            case hy23 => (intro wq hSw; (try dsimp only at hSw); go_simp; (try with_reducible rfl))
            try simp only [Act.put, List.setIfInBounds_toArray, List.set_cons_zero, List.set_cons_succ]
            refine wpAnyH_take (i := 34) (oi := ⟨some 117, _, _, _, _, _⟩) (v := ?v24) rfl (by kernel_rfl) (by kernel_rfl) (by kernel_rfl) (fun _ _ _ h => h) (Or.inl ⟨by rfl, ?hy24⟩) hHeld ?rest24
            case hy24 => (intro wq hSw; (try dsimp only at hSw); go_simp; (try with_reducible rfl))
            try simp only [Act.put, List.setIfInBounds_toArray, List.set_cons_zero, List.set_cons_succ]
            refine wpAnyH_take (i := 35) (oi := ⟨some 118, _, _, _, _, _⟩) (v := ?v25) rfl (by kernel_rfl) (by kernel_rfl) (by kernel_rfl) (fun _ _ _ h => h) (Or.inl ⟨by rfl, ?hy25⟩) hHeld ?rest25
            case hy25 => (intro wq hSw; (try dsimp only at hSw); go_simp; (try with_reducible rfl))
            try simp only [Act.put, List.setIfInBounds_toArray, List.set_cons_zero, List.set_cons_succ]
            refine wpAnyH_take (i := 36) (oi := ⟨some 119, _, _, _, _, _⟩) (v := ?v26) rfl (by kernel_rfl) (by kernel_rfl) (by kernel_rfl) (fun _ _ _ h => h) (Or.inl ⟨by rfl, ?hy26⟩) hHeld ?rest26
            case hy26 => (intro wq hSw; (try dsimp only at hSw); go_simp; (try with_reducible rfl))
            try simp only [Act.put, List.setIfInBounds_toArray, List.set_cons_zero, List.set_cons_succ]
            refine wpAnyH_take (i := 37) (oi := ⟨some 120, _, _, _, _, _⟩) (v := ?v27) rfl (by kernel_rfl) (by kernel_rfl) (by kernel_rfl) (fun _ _ _ h => h) (Or.inl ⟨by rfl, ?hy27⟩) hHeld ?rest27
            case hy27 => (intro wq hSw; (try dsimp only at hSw); go_simp; (try with_reducible rfl))
            try simp only [Act.put, List.setIfInBounds_toArray, List.set_cons_zero, List.set_cons_succ]
            refine wpAnyH_take (i := 38) (oi := ⟨some 121, _, _, _, _, _⟩) (v := ?v28) rfl (by kernel_rfl) (by kernel_rfl) (by kernel_rfl) (fun _ _ _ h => h) (Or.inl ⟨by rfl, ?hy28⟩) hHeld ?rest28
            case hy28 => (intro wq hSw; (try dsimp only at hSw); go_simp; (try with_reducible rfl))
            try simp only [Act.put, List.setIfInBounds_toArray, List.set_cons_zero, List.set_cons_succ]
            refine wpAnyH_take (i := 39) (oi := ⟨some 122, _, _, _, _, _⟩) (v := ?v29) rfl (by kernel_rfl) (by kernel_rfl) (by kernel_rfl) (fun _ _ _ h => h) (Or.inl ⟨by rfl, ?hy29⟩) hHeld ?rest29
            case hy29 => (intro wq hSw; (try dsimp only at hSw); go_simp; (try with_reducible rfl))
            try simp only [Act.put, List.setIfInBounds_toArray, List.set_cons_zero, List.set_cons_succ]
            refine wpAnyH_take (i := 40) (oi := ⟨some 123, _, _, _, _, _⟩) (v := ?v30) rfl (by kernel_rfl) (by kernel_rfl) (by kernel_rfl) (fun _ _ _ h => h) (Or.inl ⟨by rfl, ?hy30⟩) hHeld ?rest30
            case hy30 => (intro wq hSw; (try dsimp only at hSw); go_simp; (try with_reducible rfl))
            try simp only [Act.put, List.setIfInBounds_toArray, List.set_cons_zero, List.set_cons_succ]
            refine wpAnyH_take (i := 41) (oi := ⟨some 124, _, _, _, _, _⟩) (v := ?v31) rfl (by kernel_rfl) (by kernel_rfl) (by kernel_rfl) (fun _ _ _ h => h) (Or.inl ⟨by rfl, ?hy31⟩) hHeld ?rest31
            case hy31 => (intro wq hSw; (try dsimp only at hSw); go_simp; (try with_reducible rfl))
            try simp only [Act.put, List.setIfInBounds_toArray, List.set_cons_zero, List.set_cons_succ]
            refine wpAnyH_take (i := 42) (oi := ⟨some 125, _, _, _, _, _⟩) (v := ?v32) rfl (by kernel_rfl) (by kernel_rfl) (by kernel_rfl) (fun _ _ _ h => h) (Or.inl ⟨by rfl, ?hy32⟩) hHeld ?rest32
            case hy32 => (intro wq hSw; (try dsimp only at hSw); go_simp; (try with_reducible rfl))
            try simp only [Act.put, List.setIfInBounds_toArray, List.set_cons_zero, List.set_cons_succ]
            refine wpAnyH_take (i := 43) (oi := ⟨some 126, _, _, _, _, _⟩) (v := ?v33) rfl (by kernel_rfl) (by kernel_rfl) (by kernel_rfl) (fun _ _ _ h => h) (Or.inl ⟨by rfl, ?hy33⟩) hHeld ?rest33
            case hy33 => (intro wq hSw; (try dsimp only at hSw); go_simp; (try with_reducible rfl))
            try simp only [Act.put, List.setIfInBounds_toArray, List.set_cons_zero, List.set_cons_succ]
            refine wpAnyH_take (i := 44) (oi := ⟨some 127, _, _, _, _, _⟩) (v := ?v34) rfl (by kernel_rfl) (by kernel_rfl) (by kernel_rfl) (fun _ _ _ h => h) (Or.inl ⟨by rfl, ?hy34⟩) hHeld ?rest34
            case hy34 => (intro wq hSw; (try dsimp only at hSw); go_simp; (try with_reducible rfl))
            try simp only [Act.put, List.setIfInBounds_toArray, List.set_cons_zero, List.set_cons_succ]
            refine wpAnyH_take (i := 45) (oi := ⟨some 128, _, _, _, _, _⟩) (v := ?v35) rfl (by kernel_rfl) (by kernel_rfl) (by kernel_rfl) (fun _ _ _ h => h) (Or.inl ⟨by rfl, ?hy35⟩) hHeld ?rest35
            case hy35 => (intro wq hSw; (try dsimp only at hSw); go_simp; (try with_reducible rfl))
            try simp only [Act.put, List.setIfInBounds_toArray, List.set_cons_zero, List.set_cons_succ]
            refine wpAnyH_done (by kernel_rfl) ?_ _
            go_wp2_with fail
            go_meet
            case rel => exact ⟨rfl, hh⟩
          case rest =>
            clear hh hlv2 hne ylen zj
            clear f7 k0 k1 l7 f6 k61 l6 f12 kx kx1 lx fr kr lr
            obtain ⟨rfl, hh⟩ := hcut
            go_wp2_with fail
            go_loopg [16] l.length (fun kq v16 w' => ∃ k : Nat, v16 = .int .i64 (k : Int) ∧ kq + k = l.length ∧ SepK w w' [(b12, Obj.cells #[.int .i64 0, .int .u64 0] 30 (0, 0)), (b7, Obj.cells #[.int .i64 s.2.1, .int .u64 s.2.2] 30 (0, 0)), (b6, Obj.cells #[.bool s.1, .int .i64 s.2.1, .int .u64 s.2.2] 28 (0, 0)), (r, rblk (.slice AL l.length cL) vA)] (star (rowR 30 2 (.slice Av l.length cv) (l.map encH)) (star (tabR t L V) (star (rowR 30 2 (.slice AL l.length cL) (l.map encH)) (star (rowR 30 2 vA (L.map encH)) emp)))))
            case atStart => exact ⟨0, rfl, rfl, hh⟩
            case round =>
              clear hh
              obtain ⟨k, rfl, hk2, hh⟩ := hrel
              by_cases hkl : k < l.length
              · have y1 : decide ((k : Int) < (l.length : Int)) = true := decide_eq_true (by omega)
                have y2 : (0 : Int) ≤ (k : Int) := by omega
                have y3 : (k : Int) < (l.length : Int) := by omega
                obtain ⟨p, hp⟩ : ∃ p, l[k]? = some p := ⟨l[k], List.getElem?_eq_getElem hkl⟩
                have hne := fun w => neq30 p.1 p.2 p.1 p.2 w
                simp only [decide_true, Bool.not_true] at hne
                obtain ⟨Aa, ca, ea, ha1⟩ := hh.row
                rw [List.length_map] at ea
                cases ea
                obtain ⟨bv, ov, rfl, -⟩ := ha1 k (encH p) (by rw [List.getElem?_map, hp]; rfl)
                clear ha1
                obtain ⟨Ab, cb, eb, hb1⟩ := hh.pull2.row
                rw [List.length_map] at eb
                cases eb
                obtain ⟨bl2, ol2, el2, -⟩ := hb1 k (encH p) (by rw [List.getElem?_map, hp]; rfl)
                clear hb1
                cases el2
                go_upto_region 25 with fail
                replace hh := hh.upd (Upd.refl [] _).drew
                obtain ⟨n0, n1⟩ := rowat0 hh hp
                obtain ⟨n2, n3⟩ := rowat hh hp
                have fr := hh.blk (b := r) (List.mem_cons_of_mem _ (List.mem_cons_of_mem _ (List.mem_cons_of_mem _ List.mem_cons_self)))
                have kr := cell_of fr 0
                have lr := lt_of_heap fr
                simp only [List.getElem?_toArray, List.getElem?_cons_zero, List.getElem?_cons_succ] at kr
                go_region_held3 (fun w' => w'.cell? ⟨bv, ov + k * 2, none⟩ = some (.int .i64 p.1) ∧ w'.cell? ⟨bv, ov + k * 2 + 1, none⟩ = some (.int .u64 p.2) ∧ w'.cell? ⟨bl2, ol2 + k * 2, none⟩ = some (.int .i64 p.1) ∧ w'.cell? ⟨bl2, ol2 + k * 2 + 1, none⟩ = some (.int .u64 p.2) ∧ w'.cell? ⟨r, 0, none⟩ = some (.slice (some ⟨bl2, ol2, none⟩) l.length cL)) (exact ⟨n0, n1, n2, n3, kr⟩) (first | fail)
                go_wp2_with fail
                go_roundg (gk - 1)
                case measure => omega
                case rel => exact ⟨k + 1, by go_num, by omega, hh⟩
              · have y1 : decide ((k : Int) < (l.length : Int)) = false := decide_eq_false (by omega)
                go_wp2_with fail
                go_roundg (ls.length - i - 1)
                case measure => omega
                case rel => exact ⟨i + 1, L, V, l, _, vA, by go_num, by omega, ((hh.imp fun _ g => star_tail g).push2).drop _ (fun p hp => List.mem_cons_of_mem _ (List.mem_cons_of_mem _ (List.mem_cons_of_mem _ hp))), hP⟩
        · skip
          clear hqs
          have hX2 := hX
          have f7 := hX2.blk (b := b7) List.mem_cons_self; have k0 := cell_of f7 0; have k1 := cell_of f7 1; have l7 := lt_of_heap f7; have f6 := hX2.blk (b := b6) (List.mem_cons_of_mem _ List.mem_cons_self); have k6 := cell_of f6 0; have k61 := cell_of f6 1; have k62 := cell_of f6 2; have l6 := lt_of_heap f6; simp only [List.getElem?_toArray, List.getElem?_cons_zero, List.getElem?_cons_succ] at k0 k1 k6 k61 k62
          go_wp2_with fail
          refine (tOf hX2.pull2 s.2.1 hso.1).mono ?_
          rw [hv]
          simp only [Option.getD_some, Option.isSome_some]
          rintro e wa ⟨rfl, ha0⟩
          clear f7 k0 k1 l7 f6 k6 k61 k62 l6
          clear hX hX2
          have hh := (ha0.push2).alloc (.cells #[.int .i64 q.1, .int .u64 q.2] 30)
          clear ha0
          obtain ⟨AL, cL, rfl, -⟩ := hh.parts
          rw [List.length_map] at hh
          have f7 := hh.blk (b := b7) (List.mem_cons_of_mem _ List.mem_cons_self); have k0 := cell_of f7 0; have k1 := cell_of f7 1; have l7 := lt_of_heap f7; have f6 := hh.blk (b := b6) (List.mem_cons_of_mem _ (List.mem_cons_of_mem _ List.mem_cons_self)); have k61 := cell_of f6 1; have l6 := lt_of_heap f6; have f12 := hh.blk List.mem_cons_self; have kx := cell_of f12 0; have kx1 := cell_of f12 1; have lx := lt_of_heap f12; have fr := hh.blk (b := r) (List.mem_cons_of_mem _ (List.mem_cons_of_mem _ (List.mem_cons_of_mem _ List.mem_cons_self))); have kr := cell_of fr 0; have lr := lt_of_heap fr; simp only [List.getElem?_toArray, List.getElem?_cons_zero, List.getElem?_cons_succ] at k0 k1 k61 kx kx1 kr
          go_wp2_with fail
          refine (rAt hh (List.mem_cons_of_mem _ (List.mem_cons_of_mem _ (List.mem_cons_of_mem _ List.mem_cons_self))) s.2.1 (by omega)).mono ?_
          rintro e wb ⟨rfl, rfl⟩
          rw [ha]
          go_wp2_with fail
          refine (tAll hh.pull2 (by omega)).mono ?_
          rintro e wc2 ⟨v, rfl, hc2⟩
          rw [hP.live hh.pull2.liveNd] at hc2
          clear f7 k0 k1 l7 f6 k61 l6 f12 kx kx1 lx fr kr lr
          replace hh := hc2
          clear hc2
          generalize hb12 : wa.heap.size = b12 at hh ⊢
          clear hb12
          obtain ⟨Av, cv, rfl, -⟩ := hh.parts
          rw [List.length_map] at hh
          obtain ⟨A9, c9, e9, hr9⟩ := hh.pull2.row
          rw [List.length_map] at e9
          cases e9
          obtain ⟨bo, oo, rfl, -⟩ := hr9 j (encH q) (by rw [List.getElem?_map, hq]; rfl)
          clear hr9
          have f7 := hh.blk (b := b7) (List.mem_cons_of_mem _ List.mem_cons_self); have k0 := cell_of f7 0; have k1 := cell_of f7 1; have l7 := lt_of_heap f7; have f6 := hh.blk (b := b6) (List.mem_cons_of_mem _ (List.mem_cons_of_mem _ List.mem_cons_self)); have k61 := cell_of f6 1; have l6 := lt_of_heap f6; have f12 := hh.blk List.mem_cons_self; have kx := cell_of f12 0; have kx1 := cell_of f12 1; have lx := lt_of_heap f12; have fr := hh.blk (b := r) (List.mem_cons_of_mem _ (List.mem_cons_of_mem _ (List.mem_cons_of_mem _ List.mem_cons_self))); have kr := cell_of fr 0; have lr := lt_of_heap fr; simp only [List.getElem?_toArray, List.getElem?_cons_zero, List.getElem?_cons_succ] at k0 k1 k61 kx kx1 kr; obtain ⟨m0, m1⟩ := rowat hh hq
          have zj : decide ((0 : Int) ≤ (j : Int)) = true := decide_eq_true (by omega)
          have zj1 : (0 : Int) ≤ (j : Int) := by omega
          have zj2 : (j : Int) < (l.length : Int) := by have := (List.getElem?_eq_some_iff.1 hq).1; omega
          have hne := fun w => neq30 q.1 q.2 q.1 q.2 w
          simp only [decide_true, Bool.not_true] at hne
          have ylen : ((l.length : Int) != (l.length : Int)) = false := by simp
          have hlv2 : decide ((s.2.1, s.2.2) ∈ l) = decide (aget V s.2.1 = some (s.2.1, s.2.2)) := decide_eq_decide.2 (hP.mem _)
          go_upto_region 20 with fail
          go_cut [128] (fun v128 w' => v128 = .bool false ∧ SepK w w' [(b12, Obj.cells #[.int .i64 q.1, .int .u64 q.2] 30 (0, 0)), (b7, Obj.cells #[.int .i64 s.2.1, .int .u64 s.2.2] 30 (0, 0)), (b6, Obj.cells #[.bool s.1, .int .i64 s.2.1, .int .u64 s.2.2] 28 (0, 0)), (r, rblk (.slice (some ⟨bo, oo, none⟩) l.length cL) vA)] (star (rowR 30 2 (.slice Av l.length cv) (l.map encH)) (star (tabR t L V) (star (rowR 30 2 (.slice (some ⟨bo, oo, none⟩) l.length cL) (l.map encH)) (star (rowR 30 2 vA (L.map encH)) emp)))))
          case first =>
            replace hh := hh.upd (Upd.refl [] _).drew
            clear f7 k0 k1 l7 f6 k61 l6 f12 kx kx1 lx fr kr lr; clear m0 m1
            have f7 := hh.blk (b := b7) (List.mem_cons_of_mem _ List.mem_cons_self); have k0 := cell_of f7 0; have k1 := cell_of f7 1; have l7 := lt_of_heap f7; have f6 := hh.blk (b := b6) (List.mem_cons_of_mem _ (List.mem_cons_of_mem _ List.mem_cons_self)); have k61 := cell_of f6 1; have l6 := lt_of_heap f6; have f12 := hh.blk List.mem_cons_self; have kx := cell_of f12 0; have kx1 := cell_of f12 1; have lx := lt_of_heap f12; have fr := hh.blk (b := r) (List.mem_cons_of_mem _ (List.mem_cons_of_mem _ (List.mem_cons_of_mem _ List.mem_cons_self))); have kr := cell_of fr 0; have lr := lt_of_heap fr; simp only [List.getElem?_toArray, List.getElem?_cons_zero, List.getElem?_cons_succ] at k0 k1 k61 kx kx1 kr; obtain ⟨m0, m1⟩ := rowat hh hq
            obtain ⟨bb, hbb⟩ : ∃ bb, bb = decide (aget V s.2.1 = some (s.2.1, s.2.2)) := ⟨_, rfl⟩
            have ybb : (bb != bb) = false := by simp
            rw [← hbb] at hlv2
            refine wp_region_held_drew (S := fun w' => w'.cell? ⟨b7, 0, none⟩ = some (.int .i64 s.2.1) ∧ w'.cell? ⟨b7, 1, none⟩ = some (.int .u64 s.2.2) ∧ w'.cell? ⟨b12, 0, none⟩ = some (.int .i64 q.1) ∧ w'.cell? ⟨b12, 1, none⟩ = some (.int .u64 q.2) ∧ w'.cell? ⟨r, 0, none⟩ = some (.slice (some ⟨bo, oo, none⟩) l.length cL) ∧ w'.cell? ⟨bo, oo + j * 2, none⟩ = some (.int .i64 q.1) ∧ w'.cell? ⟨bo, oo + j * 2 + 1, none⟩ = some (.int .u64 q.2)) (by kernel_rfl) (by exact ⟨k0, k1, kx, kx1, kr, m0, m1⟩) (fun hHeld => ?_)
            refine wpAnyH_take (i := 0) (oi := ⟨some 83, _, _, _, _, _⟩) (v := ?v36) rfl (by kernel_rfl) (by kernel_rfl) (by kernel_rfl) (fun _ _ _ h => h) (Or.inl ⟨by rfl, ?hy36⟩) hHeld ?rest36
            case hy36 => (intro wq hSw; (try dsimp only at hSw); go_simp; (try with_reducible rfl))
            try simp only [Act.put, List.setIfInBounds_toArray, List.set_cons_zero, List.set_cons_succ]
            refine wpAnyH_take (i := 1) (oi := ⟨some 84, _, _, _, _, _⟩) (v := ?v37) rfl (by kernel_rfl) (by kernel_rfl) (by kernel_rfl) (fun _ _ _ h => h) (Or.inl ⟨by rfl, ?hy37⟩) hHeld ?rest37
            case hy37 => (intro wq hSw; (try dsimp only at hSw); go_simp; (try with_reducible rfl))
            try simp only [Act.put, List.setIfInBounds_toArray, List.set_cons_zero, List.set_cons_succ]
            refine wpAnyH_take (i := 3) (oi := ⟨some 86, _, _, _, _, _⟩) (v := ?v38) rfl (by kernel_rfl) (by kernel_rfl) (by kernel_rfl) (fun _ _ _ h => h) (Or.inl ⟨by rfl, ?hy38⟩) hHeld ?rest38
            case hy38 => (intro wq hSw; (try dsimp only at hSw); go_simp; (try with_reducible rfl))
            try simp only [Act.put, List.setIfInBounds_toArray, List.set_cons_zero, List.set_cons_succ]
            refine wpAnyH_take (i := 4) (oi := ⟨some 87, _, _, _, _, _⟩) (v := ?v39) rfl (by kernel_rfl) (by kernel_rfl) (by kernel_rfl) (fun _ _ _ h => h) (Or.inl ⟨by rfl, ?hy39⟩) hHeld ?rest39
            case hy39 => (intro wq hSw; (try dsimp only at hSw); go_simp; (try with_reducible rfl))
            try simp only [Act.put, List.setIfInBounds_toArray, List.set_cons_zero, List.set_cons_succ]
            refine wpAnyH_ready (rs := [2]) (by kernel_rfl) (by simp) ?_
            refine AllReadyH.cons (o := ⟨some 85, _, _, _, _, _⟩) rfl (fun K hK => ?_) AllReadyH.nil
            go_simp
            (refine (tLives hh.swap s.2.1 s.2.2 hso.1).mono ?_; rw [← hbb]; rintro e wd ⟨rfl, hd'⟩; replace hh := hd'.swap; clear f7 k0 k1 l7 f6 k61 l6 f12 kx kx1 lx fr kr lr; clear m0 m1; have f7 := hh.blk (b := b7) (List.mem_cons_of_mem _ List.mem_cons_self); have k0 := cell_of f7 0; have k1 := cell_of f7 1; have l7 := lt_of_heap f7; have f6 := hh.blk (b := b6) (List.mem_cons_of_mem _ (List.mem_cons_of_mem _ List.mem_cons_self)); have k61 := cell_of f6 1; have l6 := lt_of_heap f6; have f12 := hh.blk List.mem_cons_self; have kx := cell_of f12 0; have kx1 := cell_of f12 1; have lx := lt_of_heap f12; have fr := hh.blk (b := r) (List.mem_cons_of_mem _ (List.mem_cons_of_mem _ (List.mem_cons_of_mem _ List.mem_cons_self))); have kr := cell_of fr 0; have lr := lt_of_heap fr; simp only [List.getElem?_toArray, List.getElem?_cons_zero, List.getElem?_cons_succ] at k0 k1 k61 kx kx1 kr; obtain ⟨m0, m1⟩ := rowat hh hq)
            refine hK.out _ _ (by exact ⟨k0, k1, kx, kx1, kr, m0, m1⟩) (fun hHeld => ?_)
            clear hK K
            try simp only [Act.put, List.setIfInBounds_toArray, List.set_cons_zero, List.set_cons_succ]
            refine wpAnyH_ready (rs := [5]) (by kernel_rfl) (by simp) ?_
            refine AllReadyH.cons (o := ⟨some 88, _, _, _, _, _⟩) rfl (fun K hK => ?_) AllReadyH.nil
            go_simp
            (refine (rLives hh.pull2 (List.mem_cons_of_mem _ (List.mem_cons_of_mem _ (List.mem_cons_of_mem _ List.mem_cons_self))) (s.2.1, s.2.2) (by omega) hP.nd).mono ?_; rw [hlv2]; rintro e we ⟨rfl, he'⟩; replace hh := he'.push2; clear f7 k0 k1 l7 f6 k61 l6 f12 kx kx1 lx fr kr lr; clear m0 m1; have f7 := hh.blk (b := b7) (List.mem_cons_of_mem _ List.mem_cons_self); have k0 := cell_of f7 0; have k1 := cell_of f7 1; have l7 := lt_of_heap f7; have f6 := hh.blk (b := b6) (List.mem_cons_of_mem _ (List.mem_cons_of_mem _ List.mem_cons_self)); have k61 := cell_of f6 1; have l6 := lt_of_heap f6; have f12 := hh.blk List.mem_cons_self; have kx := cell_of f12 0; have kx1 := cell_of f12 1; have lx := lt_of_heap f12; have fr := hh.blk (b := r) (List.mem_cons_of_mem _ (List.mem_cons_of_mem _ (List.mem_cons_of_mem _ List.mem_cons_self))); have kr := cell_of fr 0; have lr := lt_of_heap fr; simp only [List.getElem?_toArray, List.getElem?_cons_zero, List.getElem?_cons_succ] at k0 k1 k61 kx kx1 kr; obtain ⟨m0, m1⟩ := rowat hh hq)
            refine hK.out _ _ (by exact ⟨k0, k1, kx, kx1, kr, m0, m1⟩) (fun hHeld => ?_)
            clear hK K
            try simp only [Act.put, List.setIfInBounds_toArray, List.set_cons_zero, List.set_cons_succ]
            refine wpAnyH_take (i := 6) (oi := ⟨some 89, _, _, _, _, _⟩) (v := ?v40) rfl (by kernel_rfl) (by kernel_rfl) (by kernel_rfl) (fun _ _ _ h => h) (Or.inl ⟨by rfl, ?hy40⟩) hHeld ?rest40
            case hy40 => (intro wq hSw; (try dsimp only at hSw); go_simp; (try with_reducible rfl))
            try simp only [Act.put, List.setIfInBounds_toArray, List.set_cons_zero, List.set_cons_succ]
            refine wpAnyH_take (i := 7) (oi := ⟨some 90, _, _, _, _, _⟩) (v := ?v41) rfl (by kernel_rfl) (by kernel_rfl) (by kernel_rfl) (fun _ _ _ h => h) (Or.inl ⟨by rfl, ?hy41⟩) hHeld ?rest41
            case hy41 => (intro wq hSw; (try dsimp only at hSw); go_simp; (try with_reducible rfl))
            try simp only [Act.put, List.setIfInBounds_toArray, List.set_cons_zero, List.set_cons_succ]
            refine wpAnyH_take (i := 8) (oi := ⟨some 91, _, _, _, _, _⟩) (v := ?v42) rfl (by kernel_rfl) (by kernel_rfl) (by kernel_rfl) (fun _ _ _ h => h) (Or.inl ⟨by rfl, ?hy42⟩) hHeld ?rest42
            case hy42 => (intro wq hSw; (try dsimp only at hSw); go_simp; (try with_reducible rfl))
            try simp only [Act.put, List.setIfInBounds_toArray, List.set_cons_zero, List.set_cons_succ]
            refine wpAnyH_take (i := 9) (oi := ⟨some 92, _, _, _, _, _⟩) (v := ?v43) rfl (by kernel_rfl) (by kernel_rfl) (by kernel_rfl) (fun _ _ _ h => h) (Or.inl ⟨by rfl, ?hy43⟩) hHeld ?rest43
            case hy43 => (intro wq hSw; (try dsimp only at hSw); go_simp; (try with_reducible rfl))
            try simp only [Act.put, List.setIfInBounds_toArray, List.set_cons_zero, List.set_cons_succ]
            refine wpAnyH_take (i := 10) (oi := ⟨some 93, _, _, _, _, _⟩) (v := ?v44) rfl (by kernel_rfl) (by kernel_rfl) (by kernel_rfl) (fun _ _ _ h => h) (Or.inl ⟨by rfl, ?hy44⟩) hHeld ?rest44
            case hy44 => (intro wq hSw; (try dsimp only at hSw); go_simp; (try with_reducible rfl))
            try simp only [Act.put, List.setIfInBounds_toArray, List.set_cons_zero, List.set_cons_succ]
            refine wpAnyH_take (i := 11) (oi := ⟨some 94, _, _, _, _, _⟩) (v := ?v45) rfl (by kernel_rfl) (by kernel_rfl) (by kernel_rfl) (fun _ _ _ h => h) (Or.inl ⟨by rfl, ?hy45⟩) hHeld ?rest45
            case hy45 => (intro wq hSw; (try dsimp only at hSw); go_simp; (try with_reducible rfl))
            try simp only [Act.put, List.setIfInBounds_toArray, List.set_cons_zero, List.set_cons_succ]
            refine wpAnyH_take (i := 12) (oi := ⟨some 95, _, _, _, _, _⟩) (v := ?v46) rfl (by kernel_rfl) (by kernel_rfl) (by kernel_rfl) (fun _ _ _ h => h) (Or.inl ⟨by rfl, ?hy46⟩) hHeld ?rest46
            case hy46 => (intro wq hSw; (try dsimp only at hSw); go_simp; (try with_reducible rfl))
            try simp only [Act.put, List.setIfInBounds_toArray, List.set_cons_zero, List.set_cons_succ]
            refine wpAnyH_take (i := 13) (oi := ⟨some 96, _, _, _, _, _⟩) (v := ?v47) rfl (by kernel_rfl) (by kernel_rfl) (by kernel_rfl) (fun _ _ _ h => h) (Or.inl ⟨by rfl, ?hy47⟩) hHeld ?rest47
            case hy47 => (intro wq hSw; (try dsimp only at hSw); go_simp; (try with_reducible rfl))
            try simp only [Act.put, List.setIfInBounds_toArray, List.set_cons_zero, List.set_cons_succ]
            refine wpAnyH_take (i := 14) (oi := ⟨some 97, _, _, _, _, _⟩) (v := ?v48) rfl (by kernel_rfl) (by kernel_rfl) (by kernel_rfl) (fun _ _ _ h => h) (Or.inl ⟨by rfl, ?hy48⟩) hHeld ?rest48
            case hy48 => (intro wq hSw; (try dsimp only at hSw); go_simp; (try with_reducible rfl))
            try simp only [Act.put, List.setIfInBounds_toArray, List.set_cons_zero, List.set_cons_succ]
            refine wpAnyH_take (i := 15) (oi := ⟨some 98, _, _, _, _, _⟩) (v := ?v49) rfl (by kernel_rfl) (by kernel_rfl) (by kernel_rfl) (fun _ _ _ h => h) (Or.inl ⟨by rfl, ?hy49⟩) hHeld ?rest49
            case hy49 => (intro wq hSw; (try dsimp only at hSw); go_simp; (try with_reducible rfl))
            try simp only [Act.put, List.setIfInBounds_toArray, List.set_cons_zero, List.set_cons_succ]
            refine wpAnyH_take (i := 16) (oi := ⟨some 99, _, _, _, _, _⟩) (v := ?v50) rfl (by kernel_rfl) (by kernel_rfl) (by kernel_rfl) (fun _ _ _ h => h) (Or.inl ⟨by rfl, ?hy50⟩) hHeld ?rest50
            case hy50 => (intro wq hSw; (try dsimp only at hSw); go_simp; (try with_reducible rfl))
            try simp only [Act.put, List.setIfInBounds_toArray, List.set_cons_zero, List.set_cons_succ]
            refine wpAnyH_take (i := 17) (oi := ⟨some 100, _, _, _, _, _⟩) (v := ?v51) rfl (by kernel_rfl) (by kernel_rfl) (by kernel_rfl) (fun _ _ _ h => h) (Or.inl ⟨by rfl, ?hy51⟩) hHeld ?rest51
            case hy51 => (intro wq hSw; (try dsimp only at hSw); go_simp; (try with_reducible rfl))
            try simp only [Act.put, List.setIfInBounds_toArray, List.set_cons_zero, List.set_cons_succ]
            refine wpAnyH_take (i := 18) (oi := ⟨some 101, _, _, _, _, _⟩) (v := ?v52) rfl (by kernel_rfl) (by kernel_rfl) (by kernel_rfl) (fun _ _ _ h => h) (Or.inl ⟨by rfl, ?hy52⟩) hHeld ?rest52
            case hy52 => (intro wq hSw; (try dsimp only at hSw); go_simp; (try with_reducible rfl))
            try simp only [Act.put, List.setIfInBounds_toArray, List.set_cons_zero, List.set_cons_succ]
            refine wpAnyH_take (i := 19) (oi := ⟨some 102, _, _, _, _, _⟩) (v := ?v53) rfl (by kernel_rfl) (by kernel_rfl) (by kernel_rfl) (fun _ _ _ h => h) (Or.inl ⟨by rfl, ?hy53⟩) hHeld ?rest53
            case hy53 => (intro wq hSw; (try dsimp only at hSw); go_simp; (try with_reducible rfl))
            try simp only [Act.put, List.setIfInBounds_toArray, List.set_cons_zero, List.set_cons_succ]
            refine wpAnyH_take (i := 20) (oi := ⟨some 103, _, _, _, _, _⟩) (v := ?v54) rfl (by kernel_rfl) (by kernel_rfl) (by kernel_rfl) (fun _ _ _ h => h) (Or.inl ⟨by rfl, ?hy54⟩) hHeld ?rest54
            case hy54 => (intro wq hSw; (try dsimp only at hSw); go_simp; (try with_reducible rfl))
            try simp only [Act.put, List.setIfInBounds_toArray, List.set_cons_zero, List.set_cons_succ]
            refine wpAnyH_take (i := 21) (oi := ⟨some 104, _, _, _, _, _⟩) (v := ?v55) rfl (by kernel_rfl) (by kernel_rfl) (by kernel_rfl) (fun _ _ _ h => h) (Or.inl ⟨by rfl, ?hy55⟩) hHeld ?rest55
            case hy55 => (intro wq hSw; (try dsimp only at hSw); go_simp; (try with_reducible rfl))
            try simp only [Act.put, List.setIfInBounds_toArray, List.set_cons_zero, List.set_cons_succ]
            refine wpAnyH_take (i := 22) (oi := ⟨some 105, _, _, _, _, _⟩) (v := ?v56) rfl (by kernel_rfl) (by kernel_rfl) (by kernel_rfl) (fun _ _ _ h => h) (Or.inl ⟨by rfl, ?hy56⟩) hHeld ?rest56
            case hy56 => (intro wq hSw; (try dsimp only at hSw); go_simp; (try with_reducible rfl))
            try simp only [Act.put, List.setIfInBounds_toArray, List.set_cons_zero, List.set_cons_succ]
            refine wpAnyH_take (i := 23) (oi := ⟨some 106, _, _, _, _, _⟩) (v := ?v57) rfl (by kernel_rfl) (by kernel_rfl) (by kernel_rfl) (fun _ _ _ h => h) (Or.inl ⟨by rfl, ?hy57⟩) hHeld ?rest57
            case hy57 => (intro wq hSw; (try dsimp only at hSw); go_simp; (try with_reducible rfl))
            try simp only [Act.put, List.setIfInBounds_toArray, List.set_cons_zero, List.set_cons_succ]
            refine wpAnyH_take (i := 24) (oi := ⟨some 107, _, _, _, _, _⟩) (v := ?v58) rfl (by kernel_rfl) (by kernel_rfl) (by kernel_rfl) (fun _ _ _ h => h) (Or.inl ⟨by rfl, ?hy58⟩) hHeld ?rest58
            case hy58 => (intro wq hSw; (try dsimp only at hSw); go_simp; (try with_reducible rfl))
            try simp only [Act.put, List.setIfInBounds_toArray, List.set_cons_zero, List.set_cons_succ]
            refine wpAnyH_take (i := 25) (oi := ⟨some 108, _, _, _, _, _⟩) (v := ?v59) rfl (by kernel_rfl) (by kernel_rfl) (by kernel_rfl) (fun _ _ _ h => h) (Or.inl ⟨by rfl, ?hy59⟩) hHeld ?rest59
            case hy59 => (intro wq hSw; (try dsimp only at hSw); go_simp; (try with_reducible rfl))
            try simp only [Act.put, List.setIfInBounds_toArray, List.set_cons_zero, List.set_cons_succ]
            refine wpAnyH_take (i := 26) (oi := ⟨some 109, _, _, _, _, _⟩) (v := ?v60) rfl (by kernel_rfl) (by kernel_rfl) (by kernel_rfl) (fun _ _ _ h => h) (Or.inl ⟨by rfl, ?hy60⟩) hHeld ?rest60
            case hy60 => (intro wq hSw; (try dsimp only at hSw); go_simp; (try with_reducible rfl))
            try simp only [Act.put, List.setIfInBounds_toArray, List.set_cons_zero, List.set_cons_succ]
            refine wpAnyH_take (i := 27) (oi := ⟨some 110, _, _, _, _, _⟩) (v := ?v61) rfl (by kernel_rfl) (by kernel_rfl) (by kernel_rfl) (fun _ _ _ h => h) (Or.inl ⟨by rfl, ?hy61⟩) hHeld ?rest61
            case hy61 => (intro wq hSw; (try dsimp only at hSw); go_simp; (try with_reducible rfl))
            try simp only [Act.put, List.setIfInBounds_toArray, List.set_cons_zero, List.set_cons_succ]
            refine wpAnyH_take (i := 28) (oi := ⟨some 111, _, _, _, _, _⟩) (v := ?v62) rfl (by kernel_rfl) (by kernel_rfl) (by kernel_rfl) (fun _ _ _ h => h) (Or.inl ⟨by rfl, ?hy62⟩) hHeld ?rest62
            case hy62 => (intro wq hSw; (try dsimp only at hSw); go_simp; (try with_reducible rfl))
            try simp only [Act.put, List.setIfInBounds_toArray, List.set_cons_zero, List.set_cons_succ]
            refine wpAnyH_take (i := 29) (oi := ⟨some 112, _, _, _, _, _⟩) (v := ?v63) rfl (by kernel_rfl) (by kernel_rfl) (by kernel_rfl) (fun _ _ _ h => h) (Or.inl ⟨by rfl, ?hy63⟩) hHeld ?rest63
            case hy63 => (intro wq hSw; (try dsimp only at hSw); go_simp; (try with_reducible rfl))
            try simp only [Act.put, List.setIfInBounds_toArray, List.set_cons_zero, List.set_cons_succ]
            refine wpAnyH_take (i := 30) (oi := ⟨some 113, _, _, _, _, _⟩) (v := ?v64) rfl (by kernel_rfl) (by kernel_rfl) (by kernel_rfl) (fun _ _ _ h => h) (Or.inl ⟨by rfl, ?hy64⟩) hHeld ?rest64
            case hy64 => (intro wq hSw; (try dsimp only at hSw); go_simp; (try with_reducible rfl))
            try simp only [Act.put, List.setIfInBounds_toArray, List.set_cons_zero, List.set_cons_succ]
            refine wpAnyH_take (i := 31) (oi := ⟨some 114, _, _, _, _, _⟩) (v := undef) rfl (by kernel_rfl) (by kernel_rfl) (by kernel_rfl) (fun _ _ _ h => h) (Or.inr ⟨by rfl, rfl⟩) hHeld ?_
            try simp only [Act.put, List.setIfInBounds_toArray, List.set_cons_zero, List.set_cons_succ]
            refine wpAnyH_take (i := 32) (oi := ⟨some 115, _, _, _, _, _⟩) (v := undef) rfl (by kernel_rfl) (by kernel_rfl) (by kernel_rfl) (fun _ _ _ h => h) (Or.inr ⟨by rfl, rfl⟩) hHeld ?_
            try simp only [Act.put, List.setIfInBounds_toArray, List.set_cons_zero, List.set_cons_succ]
            refine wpAnyH_take (i := 33) (oi := ⟨some 116, _, _, _, _, _⟩) (v := undef) rfl (by kernel_rfl) (by kernel_rfl) (by kernel_rfl) (fun _ _ _ h => h) (Or.inr ⟨by rfl, rfl⟩) hHeld ?_
            try simp only [Act.put, List.setIfInBounds_toArray, List.set_cons_zero, List.set_cons_succ]
            refine wpAnyH_take (i := 34) (oi := ⟨some 117, _, _, _, _, _⟩) (v := ?v65) rfl (by kernel_rfl) (by kernel_rfl) (by kernel_rfl) (fun _ _ _ h => h) (Or.inl ⟨by rfl, ?hy65⟩) hHeld ?rest65
            case hy65 => (intro wq hSw; (try dsimp only at hSw); go_simp; (try with_reducible rfl))
            try simp only [Act.put, List.setIfInBounds_toArray, List.set_cons_zero, List.set_cons_succ]
            refine wpAnyH_take (i := 35) (oi := ⟨some 118, _, _, _, _, _⟩) (v := ?v66) rfl (by kernel_rfl) (by kernel_rfl) (by kernel_rfl) (fun _ _ _ h => h) (Or.inl ⟨by rfl, ?hy66⟩) hHeld ?rest66
            case hy66 => (intro wq hSw; (try dsimp only at hSw); go_simp; (try with_reducible rfl))
            try simp only [Act.put, List.setIfInBounds_toArray, List.set_cons_zero, List.set_cons_succ]
            refine wpAnyH_take (i := 36) (oi := ⟨some 119, _, _, _, _, _⟩) (v := ?v67) rfl (by kernel_rfl) (by kernel_rfl) (by kernel_rfl) (fun _ _ _ h => h) (Or.inl ⟨by rfl, ?hy67⟩) hHeld ?rest67
            case hy67 => (intro wq hSw; (try dsimp only at hSw); go_simp; (try with_reducible rfl))
            try simp only [Act.put, List.setIfInBounds_toArray, List.set_cons_zero, List.set_cons_succ]
            refine wpAnyH_take (i := 37) (oi := ⟨some 120, _, _, _, _, _⟩) (v := ?v68) rfl (by kernel_rfl) (by kernel_rfl) (by kernel_rfl) (fun _ _ _ h => h) (Or.inl ⟨by rfl, ?hy68⟩) hHeld ?rest68
            case hy68 => (intro wq hSw; (try dsimp only at hSw); go_simp; (try with_reducible rfl))
            try simp only [Act.put, List.setIfInBounds_toArray, List.set_cons_zero, List.set_cons_succ]
            refine wpAnyH_take (i := 38) (oi := ⟨some 121, _, _, _, _, _⟩) (v := ?v69) rfl (by kernel_rfl) (by kernel_rfl) (by kernel_rfl) (fun _ _ _ h => h) (Or.inl ⟨by rfl, ?hy69⟩) hHeld ?rest69
            case hy69 => (intro wq hSw; (try dsimp only at hSw); go_simp; (try with_reducible rfl))
            try simp only [Act.put, List.setIfInBounds_toArray, List.set_cons_zero, List.set_cons_succ]
            refine wpAnyH_take (i := 39) (oi := ⟨some 122, _, _, _, _, _⟩) (v := ?v70) rfl (by kernel_rfl) (by kernel_rfl) (by kernel_rfl) (fun _ _ _ h => h) (Or.inl ⟨by rfl, ?hy70⟩) hHeld ?rest70
            case hy70 => (intro wq hSw; (try dsimp only at hSw); go_simp; (try with_reducible rfl))
            try simp only [Act.put, List.setIfInBounds_toArray, List.set_cons_zero, List.set_cons_succ]
            refine wpAnyH_take (i := 40) (oi := ⟨some 123, _, _, _, _, _⟩) (v := ?v71) rfl (by kernel_rfl) (by kernel_rfl) (by kernel_rfl) (fun _ _ _ h => h) (Or.inl ⟨by rfl, ?hy71⟩) hHeld ?rest71
            case hy71 => (intro wq hSw; (try dsimp only at hSw); go_simp; (try with_reducible rfl))
            try simp only [Act.put, List.setIfInBounds_toArray, List.set_cons_zero, List.set_cons_succ]
            refine wpAnyH_take (i := 41) (oi := ⟨some 124, _, _, _, _, _⟩) (v := ?v72) rfl (by kernel_rfl) (by kernel_rfl) (by kernel_rfl) (fun _ _ _ h => h) (Or.inl ⟨by rfl, ?hy72⟩) hHeld ?rest72
            case hy72 => (intro wq hSw; (try dsimp only at hSw); go_simp; (try with_reducible rfl))
            try simp only [Act.put, List.setIfInBounds_toArray, List.set_cons_zero, List.set_cons_succ]
            refine wpAnyH_take (i := 42) (oi := ⟨some 125, _, _, _, _, _⟩) (v := ?v73) rfl (by kernel_rfl) (by kernel_rfl) (by kernel_rfl) (fun _ _ _ h => h) (Or.inl ⟨by rfl, ?hy73⟩) hHeld ?rest73
            case hy73 => (intro wq hSw; (try dsimp only at hSw); go_simp; (try with_reducible rfl))
            try simp only [Act.put, List.setIfInBounds_toArray, List.set_cons_zero, List.set_cons_succ]
            refine wpAnyH_take (i := 43) (oi := ⟨some 126, _, _, _, _, _⟩) (v := ?v74) rfl (by kernel_rfl) (by kernel_rfl) (by kernel_rfl) (fun _ _ _ h => h) (Or.inl ⟨by rfl, ?hy74⟩) hHeld ?rest74
            case hy74 => (intro wq hSw; (try dsimp only at hSw); go_simp; (try with_reducible rfl))
            try simp only [Act.put, List.setIfInBounds_toArray, List.set_cons_zero, List.set_cons_succ]
            refine wpAnyH_take (i := 44) (oi := ⟨some 127, _, _, _, _, _⟩) (v := ?v75) rfl (by kernel_rfl) (by kernel_rfl) (by kernel_rfl) (fun _ _ _ h => h) (Or.inl ⟨by rfl, ?hy75⟩) hHeld ?rest75
            case hy75 => (intro wq hSw; (try dsimp only at hSw); go_simp; (try with_reducible rfl))
            try simp only [Act.put, List.setIfInBounds_toArray, List.set_cons_zero, List.set_cons_succ]
            refine wpAnyH_take (i := 45) (oi := ⟨some 128, _, _, _, _, _⟩) (v := ?v76) rfl (by kernel_rfl) (by kernel_rfl) (by kernel_rfl) (fun _ _ _ h => h) (Or.inl ⟨by rfl, ?hy76⟩) hHeld ?rest76
            case hy76 => (intro wq hSw; (try dsimp only at hSw); go_simp; (try with_reducible rfl))
            try simp only [Act.put, List.setIfInBounds_toArray, List.set_cons_zero, List.set_cons_succ]
            refine wpAnyH_done (by kernel_rfl) ?_ _
            go_wp2_with fail
            go_meet
            case rel => exact ⟨rfl, hh⟩
          case rest =>
            clear hh hlv2 hne ylen zj
            clear f7 k0 k1 l7 f6 k61 l6 f12 kx kx1 lx fr kr lr; clear m0 m1
            obtain ⟨rfl, hh⟩ := hcut
            go_wp2_with fail
            go_loopg [16] l.length (fun kq v16 w' => ∃ k : Nat, v16 = .int .i64 (k : Int) ∧ kq + k = l.length ∧ SepK w w' [(b12, Obj.cells #[.int .i64 q.1, .int .u64 q.2] 30 (0, 0)), (b7, Obj.cells #[.int .i64 s.2.1, .int .u64 s.2.2] 30 (0, 0)), (b6, Obj.cells #[.bool s.1, .int .i64 s.2.1, .int .u64 s.2.2] 28 (0, 0)), (r, rblk (.slice (some ⟨bo, oo, none⟩) l.length cL) vA)] (star (rowR 30 2 (.slice Av l.length cv) (l.map encH)) (star (tabR t L V) (star (rowR 30 2 (.slice (some ⟨bo, oo, none⟩) l.length cL) (l.map encH)) (star (rowR 30 2 vA (L.map encH)) emp)))))
            case atStart => exact ⟨0, rfl, rfl, hh⟩
            case round =>
              clear hh
              obtain ⟨k, rfl, hk2, hh⟩ := hrel
              by_cases hkl : k < l.length
              · have y1 : decide ((k : Int) < (l.length : Int)) = true := decide_eq_true (by omega)
                have y2 : (0 : Int) ≤ (k : Int) := by omega
                have y3 : (k : Int) < (l.length : Int) := by omega
                obtain ⟨p, hp⟩ : ∃ p, l[k]? = some p := ⟨l[k], List.getElem?_eq_getElem hkl⟩
                have hne := fun w => neq30 p.1 p.2 p.1 p.2 w
                simp only [decide_true, Bool.not_true] at hne
                obtain ⟨Aa, ca, ea, ha1⟩ := hh.row
                rw [List.length_map] at ea
                cases ea
                obtain ⟨bv, ov, rfl, -⟩ := ha1 k (encH p) (by rw [List.getElem?_map, hp]; rfl)
                clear ha1
                obtain ⟨Ab, cb, eb, hb1⟩ := hh.pull2.row
                rw [List.length_map] at eb
                cases eb
                obtain ⟨bl2, ol2, el2, -⟩ := hb1 k (encH p) (by rw [List.getElem?_map, hp]; rfl)
                clear hb1
                cases el2
                go_upto_region 25 with fail
                replace hh := hh.upd (Upd.refl [] _).drew
                obtain ⟨n0, n1⟩ := rowat0 hh hp
                obtain ⟨n2, n3⟩ := rowat hh hp
                have fr := hh.blk (b := r) (List.mem_cons_of_mem _ (List.mem_cons_of_mem _ (List.mem_cons_of_mem _ List.mem_cons_self)))
                have kr := cell_of fr 0
                have lr := lt_of_heap fr
                simp only [List.getElem?_toArray, List.getElem?_cons_zero, List.getElem?_cons_succ] at kr
                go_region_held3 (fun w' => w'.cell? ⟨bv, ov + k * 2, none⟩ = some (.int .i64 p.1) ∧ w'.cell? ⟨bv, ov + k * 2 + 1, none⟩ = some (.int .u64 p.2) ∧ w'.cell? ⟨bo, oo + k * 2, none⟩ = some (.int .i64 p.1) ∧ w'.cell? ⟨bo, oo + k * 2 + 1, none⟩ = some (.int .u64 p.2) ∧ w'.cell? ⟨r, 0, none⟩ = some (.slice (some ⟨bo, oo, none⟩) l.length cL)) (exact ⟨n0, n1, n2, n3, kr⟩) (first | fail)
                go_wp2_with fail
                go_roundg (gk - 1)
                case measure => omega
                case rel => exact ⟨k + 1, by go_num, by omega, hh⟩
              · have y1 : decide ((k : Int) < (l.length : Int)) = false := decide_eq_false (by omega)
                go_wp2_with fail
                go_roundg (ls.length - i - 1)
                case measure => omega
                case rel => exact ⟨i + 1, L, V, l, _, vA, by go_num, by omega, ((hh.imp fun _ g => star_tail g).push2).drop _ (fun p hp => List.mem_cons_of_mem _ (List.mem_cons_of_mem _ (List.mem_cons_of_mem _ hp))), hP⟩
    · have z4 : decide ((i : Int) < (ls.length : Int)) = false := decide_eq_false (by omega)
      have U := hS.u
      clear hS
      go_wp2_with (go_at_call 17; (with_reducible refine (works13 _).mono ?_); rintro e wz ⟨rfl, uz⟩)
      go_ret
      exact ⟨rfl, U.trans uz⟩
end Go.Proofs.Ytgleceijdedlkaa
