/- owns: one field fewer. -/
import Derived.Test.YtojjjkeciiieeaaOFew
namespace Go.Proofs.Ytojjjkeciiieeaa
open Go.RowKit
set_option linter.unusedVariables false
set_option linter.unusedSimpArgs false
set_option linter.unusedSectionVars false
set_option maxRecDepth 100000 in
set_option maxHeartbeats 8000000 in
theorem fewer_walk (A : Option Addr) (ca : Nat) (t : Tab) (a1 a2 : Int) (w : World) (hT : TabAt w (.slice A t.length ca) t) (hL : ∀ ty ∈ t, ty.fs.length ≤ maxLen) (hAn : A = none → ca = 0) (hC : Caps w A t) (h1 : (Lit.int .u8 a1).wf = true) (h2 : (Lit.int .u8 a2).wf = true) :
    Calls Try.prog 7 #[.slice A t.length ca, .int .u8 a1, .int .u8 a2] w fun e w' => e = .returned (.bool true) ∧ Upd [] w w' := by
  obtain ⟨p1, p1'⟩ := u8_bd h1
  obtain ⟨p2, p2'⟩ := u8_bd h2
  clear h1 h2
  by_cases c0 : heavyT t = true
  · go_enter Try.func7, Try.ntmps7
    go_wp2_with fail
    refine (heavy8 hT hL).mono ?_
    rintro e w1 ⟨rfl, rfl⟩
    rw [c0]
    go_wp2_with fail
    refine (works _).mono ?_
    rintro e w1 ⟨rfl, U⟩
    go_wp2_with fail
    go_ret
    exact ⟨rfl, U⟩
  replace c0 : heavyT t = false := by simpa using c0
  obtain ⟨hF, hl12, hf12⟩ := heavyT_fits c0
  by_cases c1 : t.length = 0
  · have z1 : ((t.length : Int) == 0) = true := by simp [c1]
    clear c1 hl12
    go_enter Try.func7, Try.ntmps7
    go_wp2_with fail
    refine (heavy8 hT hL).mono ?_
    rintro e w1 ⟨rfl, rfl⟩
    rw [c0]
    go_wp2_with fail
    refine (works _).mono ?_
    rintro e w1 ⟨rfl, U⟩
    go_wp2_with fail
    go_ret
    exact ⟨rfl, U⟩
  have z1 : ((t.length : Int) == 0) = false := by simp; intro e; exact c1 (by simp [e])
  obtain ⟨x, hx, hx1⟩ := rem_at p1 (show 0 < t.length by omega)
  have q0 : (0 : Int) < (t.length : Int) := by omega
  have q1 : (1 : Int) ≤ (t.length : Int) := by omega
  have q2 : (x : Int) < (t.length : Int) := by omega
  obtain ⟨⟨nm, sz, fs⟩, hty⟩ : ∃ ty, t[x]? = some ty := ⟨_, List.getElem?_eq_getElem hx⟩
  have hfl : fs.length ≤ 12 := hf12 _ (List.mem_of_getElem? hty)
  obtain ⟨rows, hR, hrA, hr3, hr1c⟩ := tab_rows hT
  have hrl : rows.length = t.length := hR.1
  have hPA : PartAt w (.slice A t.length ca) 3 rows := ⟨A, ca, by rw [hrl], hrA, hAn⟩
  obtain ⟨b, off, Af, cf, rfl, kk2, hcap, hcm, hcn⟩ := hC x _ hty
  have kk2' : Unit → w.cell? ⟨b, off + x * 3 + 2, none⟩ = some (.slice Af fs.length cf) := fun _ => kk2
  obtain ⟨Af', cf', hrx, hrf⟩ := hR.2 x _ hty
  have hAA : Af' = Af ∧ cf' = cf := by
    obtain ⟨b', off', e1, hc'⟩ := hrA x _ hrx
    cases e1
    have := hc' 2 _ rfl
    rw [kk2] at this
    simp only [Option.some.injEq, Value.slice.injEq] at this
    exact ⟨this.1.symm, this.2.2.symm⟩
  obtain ⟨rfl, rfl⟩ := hAA
  simp only at kk2 hcap hrx hrf
  by_cases c2 : fs.length = 0
  · have z2 : ((fs.length : Int) == 0) = true := by simp [c2]
    clear c1 c2 hl12 hfl hrA hPA hrl hf12
    go_enter Try.func7, Try.ntmps7
    go_wp2_with fail
    refine (heavy8 hT hL).mono ?_
    rintro e w1 ⟨rfl, rfl⟩
    rw [c0]
    go_wp2_with fail
    refine (works _).mono ?_
    rintro e w1 ⟨rfl, U⟩
    go_wp2_with fail
    go_ret
    exact ⟨rfl, U⟩
  have z2 : ((fs.length : Int) == 0) = false := by simp; intro e; exact c2 (by simp [e])
  obtain ⟨y, hy, hy1⟩ := rem_at p2 (show 0 < fs.length by omega)
  have q3 : (0 : Int) < (fs.length : Int) := by omega
  have q4 : (1 : Int) ≤ (fs.length : Int) := by omega
  obtain ⟨i0, hi0, hz0, hz1, hz2⟩ := info_parts info41
  have H1 := (SepK.start w).row1 41 3 #[] rfl
  have hPA1 := hPA.keep H1.u
  go_enter Try.func7, Try.ntmps7
  go_wp2_with fail
  refine (heavy8 hT hL).mono ?_
  rintro e w1 ⟨rfl, rfl⟩
  rw [c0]
  clear c0 c1 c2 hf12
  go_upto_region 8 with (at_builtin; refine wl_part rfl _ _ 22 rfl 41 i0 _ 3 48 Try.underlying22 hi0 hz0 hz1 hz2 rfl (by decide) _ [] rfl H1 _ rows rfl hPA1 hr3 hr1c (by rw [hrl]; unfold maxLen; simp; omega) (by rw [hrl]; simp; omega) ?_; intro v' w2 H2; rw [List.nil_append] at H2; obtain ⟨A9, c9, rfl, hr9, -⟩ := H2.parts; rw [hrl] at H2 ⊢)
  obtain ⟨bb, off9, rfl, hc9⟩ := hr9 x _ hrx
  have hxr : x < rows.length := by omega
  obtain ⟨rfl, ff, lb⟩ := H2.free3 hxr
  have k0 := hc9 0 _ rfl
  have k1 := hc9 1 _ rfl
  have k2 := hc9 2 _ rfl
  simp only [Nat.zero_add, Nat.add_zero] at k0 k1 k2
  obtain ⟨f0, hf0⟩ : ∃ f0, fs[0]? = some f0 := ⟨_, List.getElem?_eq_getElem (by omega)⟩
  obtain ⟨bf, of, rfl, -⟩ := hrf 0 (encF f0) (by rw [List.getElem?_map, hf0]; rfl)
  clear hc9 hr9 hf0 hPA hPA1 H1
  go_upto_region 9 with fail
  have H3 := H2.alloc (.cells #[.string nm, .int .i64 sz, .slice (some ⟨bf, of, none⟩) fs.length cf'] 41)
  have hb3 := heap_alloc_new w2 (.cells #[.string nm, .int .i64 sz, .slice (some ⟨bf, of, none⟩) fs.length cf'] 41)
  have c32 : (w2.alloc (.cells #[.string nm, .int .i64 sz, .slice (some ⟨bf, of, none⟩) fs.length cf'] 41)).cell? ⟨w2.heap.size, 2, none⟩ = some (.slice (some ⟨bf, of, none⟩) fs.length cf') := cell_of hb3 2
  have c3l := lt_of_heap hb3
  have c3f := frozen_of hb3 2
  obtain ⟨s2, hs2⟩ : ∃ s2, s2 = w2.heap.size := ⟨_, rfl⟩
  rw [← hs2] at H3 hb3 c32 c3l c3f lb ⊢
  generalize w2.alloc (.cells #[.string nm, .int .i64 sz, .slice (some ⟨bf, of, none⟩) fs.length cf'] 41) = w3 at H3 hb3 c32 c3l c3f ⊢
  clear hs2
  obtain ⟨i3, hi3, gz0, gz1, gz2⟩ := info_parts info43
  have H5 := (H3.row1 43 5 #[] rfl).upd (Upd.refl [] _).drew
  have hcn' : (some (⟨bf, of, none⟩ : Addr)) = none → cf' = 0 := fun e => by cases e
  have pt := part_take (m := y) (hrf.keep H5.u) (by simp <;> omega) hcn'
  obtain ⟨v1, w8, hrun1, H6⟩ := run_append_part (P := Try.prog) 39 39 43 i3 _ 5 48 Try.underlying39 hi3 gz0 gz1 gz2 rfl (by decide) _ _ H5 _ _ pt (by rw [← List.map_take]; exact encF_len _) (by rw [← List.map_take]; exact encF_one _) (by unfold maxLen; simp <;> omega) (by simp <;> omega)
  have pd := part_drop (m := y + 1) (hrf.keep H6.u) (by simp <;> omega) (by simp <;> omega) hcn'
  rw [List.length_map] at pd
  obtain ⟨Ad, hAd⟩ : ∃ Ad, Ad = (if cf' = y + 1 then some (⟨bf, of, none⟩ : Addr) else (some (⟨bf, of, none⟩ : Addr)).map fun a => a.add ((y + 1) * 5)) := ⟨_, rfl⟩
  rw [← hAd] at pd
  obtain ⟨v2, w9, hrun2, H7⟩ := run_append_part (P := Try.prog) 39 39 43 i3 _ 5 48 Try.underlying39 hi3 gz0 gz1 gz2 rfl (by decide) _ _ H6 _ _ pd (by rw [← List.map_drop]; exact encF_len _) (by rw [← List.map_drop]; exact encF_one _) (by unfold maxLen; simp <;> omega) (by simp <;> omega)
  have e1 : (0 : Int) ≤ (y : Int) := by omega
  have e2 : (y : Int) ≤ (cf' : Int) := by omega
  have e3 : (y : Int) ≤ (fs.length : Int) := by omega
  have e4 : (fs.length : Int) ≤ (cf' : Int) := by omega
  have e5 : (y : Int) + 1 ≤ (fs.length : Int) := by omega
  have hsl : ∀ w', (Instr.slice 39 (.slice (some ⟨bf, of, none⟩) fs.length cf') (some (.int .i64 ((y : Int) + 1))) none none).run Try.prog w' = .ok (.slice Ad (fs.length - (y + 1)) (cf' - (y + 1))) w' := fun w' => by
    rw [hAd]
    have e6 : ((y : Int) + 1 : Int) = ((y + 1 : Nat) : Int) := by omega
    rw [e6]
    have e7 : ((y + 1 : Nat) : Int) ≤ (fs.length : Int) := by omega
    have e8 : (0 : Int) ≤ ((y + 1 : Nat) : Int) := by omega
    generalize y + 1 = m at e7 e8 ⊢
    by_cases hck : cf' = m
    · subst hck
      go_simp
    · have : ¬ m = cf' := fun e => hck e.symm
      go_simp
  rw [List.nil_append, ← List.map_take, ← List.map_drop, ← List.map_append] at H7
  have hb6 := H6.blk (b := s2) (o := .cells #[.string nm, .int .i64 sz, .slice (some ⟨bf, of, none⟩) fs.length cf'] 41) (by simp)
  have hb7 := H7.blk (b := s2) (o := .cells #[.string nm, .int .i64 sz, .slice (some ⟨bf, of, none⟩) fs.length cf'] 41) (by simp)
  have c62 : w8.cell? ⟨s2, 2, none⟩ = some (.slice (some ⟨bf, of, none⟩) fs.length cf') := cell_of hb6 2
  have c72 : w9.cell? ⟨s2, 2, none⟩ = some (.slice (some ⟨bf, of, none⟩) fs.length cf') := cell_of hb7 2
  have c7f := frozen_of hb7 2
  have c7l := lt_of_heap hb7
  obtain ⟨A2, c2, rfl, hr2, -⟩ := H7.parts
  have hlen : ((fs.take y ++ fs.drop (y + 1)).map encF).length = fs.length - 1 := by simp; omega
  rw [hlen] at H7 hrun2
  generalize hv2 : Value.slice A2 (fs.length - 1) c2 = v2 at H7 hrun2
  have hwr : IntKind.i64.wrap ((y : Int) + 1) = (y : Int) + 1 := IntWalk.i64_in _ (by omega)
  clear hAd pt pd H5 H6 hi3 gz0 gz1 gz2 hi0 hz0 hz1 hz2 hb3 hb6
  have hv2o : Value.slice A2 (fs.length - 1) c2 = v2 := hv2
  subst hv2
  clear hv2o
  have hb8 : (w9.setCell ⟨s2, 2, none⟩ (.slice A2 (fs.length - 1) c2)).heap[s2]? = some (.cells #[.string nm, .int .i64 sz, .slice A2 (fs.length - 1) c2] 41) := heap_setCell_same hb7 2 _
  have H8 := H7.set ((Upd.refl [s2] w9).setCell ⟨s2, 2, none⟩ (.slice A2 (fs.length - 1) c2) (.inl (by simp))) hb8 (fun p hp e => by cases hp)
  go_cut [] from 57 to 69 (fun wx => wx = w9.setCell ⟨s2, 2, none⟩ (.slice A2 (fs.length - 1) c2))
  case first =>
    go_region_law (first | (refine step_append_run rfl (.tmp 57) (.tmp 61) 39 rfl _ _ rfl rfl _ _ hrun1 ?_) | (refine step_append_run rfl (.tmp 62) (.tmp 67) 39 rfl _ _ rfl rfl _ _ hrun2 ?_))
    all_goals (first | (go_meet; exact rfl) | (go_wp2_with fail; go_meet; exact rfl))
  case rest =>
    rw [← hcut] at hb8 H8
    clear hcut hrun1 hrun2 hsl hwr e1 e2 e3 e4 e5 c62 c72 c7f c7l c32 c3l c3f hb7 hlen
    obtain ⟨w10, hw10⟩ : ∃ w10, w10 = wc := ⟨_, rfl⟩
    rw [← hw10] at hb8 H8 ⊢
    clear hw10
    go_upto_region 10 with fail
    have H9 := H8.swap
    obtain ⟨-, ff9, lb9⟩ := H9.free3 hxr
    have c80 : w10.cell? ⟨s2, 0, none⟩ = some (.string nm) := cell_of hb8 0
    have c81 : w10.cell? ⟨s2, 1, none⟩ = some (.int .i64 sz) := cell_of hb8 1
    have c82 : w10.cell? ⟨s2, 2, none⟩ = some (.slice A2 (fs.length - 1) c2) := cell_of hb8 2
    obtain ⟨A8, c8, e8, hr8, -⟩ := H9.parts
    obtain ⟨bb9, off9, e8', hc8⟩ := hr8 x _ hrx
    rw [hrl] at e8
    cases e8
    cases e8'
    have k0 := hc8 0 _ rfl
    have k1 := hc8 1 _ rfl
    have k2 := hc8 2 _ rfl
    simp only [Nat.zero_add, Nat.add_zero] at k0 k1 k2
    have f0 := ff9 (x * 3)
    have f1 := ff9 (x * 3 + 1)
    have f2 := ff9 (x * 3 + 2)
    have H10 := H9.set3 hxr (.string nm) (.int .i64 sz) (.slice A2 (fs.length - 1) c2)
    rw [Nat.zero_add] at H10
    unfold Ytojjjkeciiieeaa.set3 at H10
    clear hr8 hc8 ff9 hb8 H8 H9 H7 hrA hr2
    go_wp2_with fail
    generalize ((w10.setCell ⟨bb, x * 3, none⟩ (.string nm)).setCell ⟨bb, x * 3 + 1, none⟩ (.int .i64 sz)).setCell ⟨bb, x * 3 + 2, none⟩ (.slice A2 (fs.length - 1) c2) = w11 at H10 ⊢
    obtain ⟨A3, c3, e3, hr3', -⟩ := H10.swap.parts
    simp only [Value.slice.injEq] at e3
    obtain ⟨rfl, -, rfl⟩ := e3
    have hlf : (fs.take y ++ fs.drop (y + 1)).length = fs.length - 1 := by simp; omega
    have hR9 := (hR.keep H10.u).set hx (ty := ⟨nm, sz, fs.take y ++ fs.drop (y + 1)⟩) (Af := A2) (cf := c2) hr3'
    have hTn : TabAt w11 (.slice (some ⟨bb, 0, none⟩) t.length c9) (t.set x ⟨nm, sz, fs.take y ++ fs.drop (y + 1)⟩) := by
      have e : [Value.string nm, .int .i64 sz, .slice A2 (fs.length - 1) c2] = tyRow ⟨nm, sz, fs.take y ++ fs.drop (y + 1)⟩ (.slice A2 (fs.take y ++ fs.drop (y + 1)).length c2) := by simp only [tyRow, hlf]
      rw [e] at H10
      exact hR9.tabAt H10
    have hsub := few_adj hty y
    have hFn := set_fits hF x (ty := ⟨nm, sz, fs.take y ++ fs.drop (y + 1)⟩) (by show (fs.take y ++ fs.drop (y + 1)).length ≤ 1000; omega)
    have htl : (t.set x ⟨nm, sz, fs.take y ++ fs.drop (y + 1)⟩).length = t.length := by simp
    have U11 := H10.u
    have hT11 := hT.keep U11
    have hdl : ∀ i, dp (t.set x ⟨nm, sz, fs.take y ++ fs.drop (y + 1)⟩) i ≤ dp t i := fun i => by unfold dp; rw [htl]; exact dep_less hsub _ _
    simp only at hsub
    generalize t.set x ⟨nm, sz, fs.take y ++ fs.drop (y + 1)⟩ = tn at hTn hsub hFn htl hdl
    clear H10 hR9 hr3' hlf hR hrx hrf hty k0 k1 k2 f0 f1 f2 c80 c81 c82 hL kk2 kk2' hcap hcm hcn hx1 hy1 H2 H3 hC hT hxr hrl
    refine (check10 hT11 hF).mono ?_
    rintro e w12 hd
    obtain ⟨s, L, rfl, hN, hS⟩ := (Iff.of_eq (CheckDid.eq_1 ..)).1 hd
    obtain ⟨B1, d1, rfl, hr1⟩ := hN.look
    have U12 := U11.trans hN.2
    have hT12 := hT11.keep hN.2
    have hTn12 := hTn.keep hN.2
    have hLl := hS.len
    generalize (if L = [] then (0 : Int) else 110) = g1
    clear hd hN U11 hT11 hTn
    go_wp2_with fail
    refine (check10 hTn12 hFn).mono ?_
    rintro e w13 hd
    obtain ⟨s, L', rfl, hN, hS'⟩ := (Iff.of_eq (CheckDid.eq_1 ..)).1 hd
    obtain ⟨B2, d2, rfl, hr2⟩ := hN.look
    have U13 := U12.trans hN.2
    have hT13 := hT12.keep hN.2
    have hTn13 := hTn12.keep hN.2
    have hr1' := hr1.keep hN.2
    have hLl' := hS'.len
    rw [htl] at hLl'
    generalize (if L' = [] then (0 : Int) else 110) = g2
    clear hd hN U12 hT12 hTn12 hr1
    have HTL : Unit → tn.length = t.length := fun _ => htl
    clear htl
    go_wp2_with fail
    go_loopg [15] L'.length (fun kq v15 w' => ∃ i : Nat, v15 = .int .i64 (i : Int) ∧ kq + i = L'.length ∧ w13 = w')
    case atStart => exact ⟨0, rfl, rfl, rfl⟩
    case round =>
      obtain ⟨i, rfl, hk, rfl⟩ := hrel
      by_cases hi : i < L'.length
      · have y1 : decide ((i : Int) < (L'.length : Int)) = true := decide_eq_true (by omega)
        obtain ⟨z, hz⟩ : ∃ z, L'[i]? = some z := ⟨_, List.getElem?_eq_getElem hi⟩
        obtain ⟨b2, o2, rfl, k2⟩ := one_cell hr2 hz
        have y2 : (i : Int) < (L'.length : Int) := by omega
        have hzL : z ∈ L := by
          have h := (hS'.2 z).1 (List.mem_of_getElem? hz)
          rw [HTL ()] at h
          exact (hS.2 z).2 ⟨h.1, h.2.mono hsub⟩
        go_wp2_with fail
        refine (has19 B1 d1 L z _ hr1' (by omega)).mono ?_
        rintro e w14 ⟨rfl, rfl⟩
        rw [decide_eq_true hzL]
        clear hzL hz
        go_wp2_with fail
        go_roundg (gk - 1)
        case measure => omega
        case rel => exact ⟨i + 1, by go_num, by omega, rfl⟩
      · have y1 : decide ((i : Int) < (L'.length : Int)) = false := decide_eq_false (by omega)
        go_wp2_with fail
        go_loopg [16] t.length (fun kq v16 w' => ∃ i : Nat, v16 = .int .i64 (i : Int) ∧ kq + i = t.length ∧ Upd [] w13 w')
        case atStart => exact ⟨0, rfl, rfl, Upd.refl _ _⟩
        case round =>
          clear hk hi y1
          obtain ⟨i, rfl, hk, U1⟩ := hrel
          obtain ⟨g1', hg1⟩ : ∃ g, g = gk := ⟨_, rfl⟩
          have hT14 := hT13.keep U1
          have hTn14 := hTn13.keep U1
          by_cases hi : i < t.length
          · have y1 : decide ((i : Int) < (t.length : Int)) = true := decide_eq_true (by omega)
            have hir : (0 : Int) ≤ (i : Int) ∧ (i : Int) < (t.length : Int) := by omega
            go_wp2_with fail
            refine (reach15 hT14 hF i).mono ?_
            rintro e w15 hd
            obtain ⟨s, R, rfl, hN, hRR⟩ := (Iff.of_eq (ReachDid.eq_1 ..)).1 hd
            obtain ⟨B3, d3, rfl, hr3⟩ := hN.look
            have U15 := U1.trans hN.2
            have hTn15 := hTn14.keep hN.2
            have hRl : R.length ≤ t.length := hRR.1.bound fun k hk => ((hRR.2 k).1 hk).within (adj_within t)
            clear hN hd
            go_wp2_with fail
            refine (reach15 hTn15 hFn i).mono ?_
            rintro e w16 hd
            obtain ⟨s, R', rfl, hN, hRR'⟩ := (Iff.of_eq (ReachDid.eq_1 ..)).1 hd
            obtain ⟨B4, d4, rfl, hr4⟩ := hN.look
            have U16 := U15.trans hN.2
            have hr3' := hr3.keep hN.2
            have hRl' : R'.length ≤ t.length := by rw [← HTL ()]; exact hRR'.1.bound fun k hk => ((hRR'.2 k).1 hk).within (adj_within tn)
            clear hN hd hr3 hTn15 hTn14 hT14
            go_wp2_with fail
            go_loopg [19] R'.length (fun kq v19 w' => ∃ j : Nat, v19 = .int .i64 (j : Int) ∧ kq + j = R'.length ∧ w16 = w')
            case atStart => exact ⟨0, rfl, rfl, rfl⟩
            case round =>
              obtain ⟨j, rfl, hk2, rfl⟩ := hrel
              by_cases hj : j < R'.length
              · have y2 : decide ((j : Int) < (R'.length : Int)) = true := decide_eq_true (by omega)
                obtain ⟨z, hz⟩ : ∃ z, R'[j]? = some z := ⟨_, List.getElem?_eq_getElem hj⟩
                obtain ⟨b2, o2, rfl, k2⟩ := one_cell hr4 hz
                have y3 : (j : Int) < (R'.length : Int) := by omega
                have hzR : z ∈ R := (hRR.2 z).2 (((hRR'.2 z).1 (List.mem_of_getElem? hz)).mono hsub)
                go_wp2_with fail
                refine (has19 B3 d3 R z _ hr3' (by omega)).mono ?_
                rintro e w17 ⟨rfl, rfl⟩
                rw [decide_eq_true hzR]
                clear hzR hz
                go_wp2_with fail
                go_roundg (gk - 1)
                case measure => omega
                case rel => exact ⟨j + 1, by go_num, by omega, rfl⟩
              · have y2 : decide ((j : Int) < (R'.length : Int)) = false := decide_eq_false (by omega)
                clear hk2
                go_wp2_with fail
                refine (depth17 (hT13.keep U16) hF i).mono ?_
                rintro e w17 hd
                obtain ⟨d, rfl, hD, u17⟩ := (Iff.of_eq (DepthDid.eq_1 ..)).1 hd
                have U17 := U16.trans u17
                clear hd
                by_cases hfi : Fine (adj t) (i : Int)
                · obtain rfl := depthIs_fine hir hfi hD
                  have hfn : Fine (adj tn) (i : Int) := hfi.less hsub
                  have hirn : (0 : Int) ≤ (i : Int) ∧ (i : Int) < (tn.length : Int) := by rw [HTL ()]; exact hir
                  have hle := hdl (i : Int)
                  have hbd := dp_bd t (i : Int)
                  have v1 : decide ((0 : Int) ≤ (dp t (i : Int) : Int)) = true := decide_eq_true (by omega)
                  have v2 : decide ((dp tn (i : Int) : Int) < 0) = false := decide_eq_false (by omega)
                  have v3 : decide ((dp t (i : Int) : Int) < (dp tn (i : Int) : Int)) = false := decide_eq_false (by omega)
                  go_wp2_with fail
                  refine (depth17 (hTn13.keep U17) hFn i).mono ?_
                  rintro e w18 hd
                  obtain ⟨d, rfl, hD2, u18⟩ := (Iff.of_eq (DepthDid.eq_1 ..)).1 hd
                  obtain rfl := depthIs_fine hirn hfn hD2
                  have U18 := U17.trans u18
                  clear hd hD2
                  go_wp2_with fail
                  refine (depth17 (hTn13.keep U18) hFn i).mono ?_
                  rintro e w19 hd
                  obtain ⟨d, rfl, hD2, u19⟩ := (Iff.of_eq (DepthDid.eq_1 ..)).1 hd
                  obtain rfl := depthIs_fine hirn hfn hD2
                  have U19 := U18.trans u19
                  clear hd hD2
                  go_wp2_with fail
                  refine (depth17 (hT13.keep U19) hF i).mono ?_
                  rintro e w20 hd
                  obtain ⟨d, rfl, hD2, u20⟩ := (Iff.of_eq (DepthDid.eq_1 ..)).1 hd
                  obtain rfl := depthIs_fine hir hfi hD2
                  have U20 := U19.trans u20
                  clear hd hD2
                  go_wp2_with fail
                  go_roundg (g1' - 1)
                  case measure => omega
                  case rel => exact ⟨i + 1, by go_num, by omega, U20⟩
                · obtain rfl := depthIs_not hfi hD
                  go_wp2_with fail
                  go_roundg (g1' - 1)
                  case measure => omega
                  case rel => exact ⟨i + 1, by go_num, by omega, U17⟩
          · have y1 : decide ((i : Int) < (t.length : Int)) = false := decide_eq_false (by omega)
            go_wp2_with fail
            refine (works _).mono ?_
            rintro e w17 ⟨rfl, U17⟩
            go_wp2_with fail
            go_ret
            exact ⟨rfl, (U13.trans U1).trans U17⟩
end Go.Proofs.Ytojjjkeciiieeaa
