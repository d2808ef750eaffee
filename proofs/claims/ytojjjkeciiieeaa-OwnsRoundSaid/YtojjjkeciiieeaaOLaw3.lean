/- owns: a chain with one more hold. -/
import Derived.Test.YtojjjkeciiieeaaOFld
namespace Go.Proofs.Ytojjjkeciiieeaa
open Go.RowKit
set_option linter.unusedVariables false
set_option linter.unusedSimpArgs false
set_option linter.unusedSectionVars false
theorem EdgeT.fine_up {t : Tab} {n : Nat} {a b i : Int} (h : EdgeT t n (some (a, b))) (hi : a < i) : Fine (adj t) i := by
  have hstep : ∀ i k, a < i → k ∈ adj t i → i < k := fun i k hi hk => by
    rcases (h.2 i k).1 hk with ⟨_, h1, rfl⟩ | e
    · omega
    · cases e; omega
  have hrc : ∀ i k, Rch (adj t) i k → a < i → i < k := fun i k hr => by
    induction hr with
    | one hk => intro hi; exact hstep _ _ hi hk
    | step hk _ ih => intro hi; have := hstep _ _ hi hk; have := ih (by omega); omega
  exact ⟨fun hr => by have := hrc _ _ hr hi; omega, fun k hk hr => by have := hrc _ _ hk hi; have := hrc _ _ hr (by omega); omega⟩
theorem EdgeT.round_zero {t : Tab} {n : Nat} {a b : Int} (h : EdgeT t n (some (a, b))) (hb : 0 ≤ b) (hba : b ≤ a) (ha : a < (n : Int)) : ¬ Fine (adj t) 0 := fun hf => by
  have hs := (h.self_iff hb hba ha (k := b) (by omega)).2 (by omega)
  by_cases e : b = 0
  · subst e; exact hf.1 hs
  · exact hf.2 b (h.go (by omega) (by omega) (by omega)) hs
set_option maxRecDepth 100000 in
set_option maxHeartbeats 8000000 in
theorem round_walk (a0 a1 a2 : Int) (w : World) (h0 : (Lit.int .u8 a0).wf = true) (h1 : (Lit.int .u8 a1).wf = true) (h2 : (Lit.int .u8 a2).wf = true) :
    Calls Try.prog 6 #[.int .u8 a0, .int .u8 a1, .int .u8 a2] w fun e w' => e = .returned (.bool true) ∧ Upd [] w w' := by
  obtain ⟨p0, p0'⟩ := u8_bd h0
  obtain ⟨p1, p1'⟩ := u8_bd h1
  obtain ⟨p2, p2'⟩ := u8_bd h2
  clear h0 h1 h2
  obtain ⟨m, hm, hm1⟩ := rem_at p0 (show 0 < 20 by omega)
  replace hm1 : a0 % 20 = (m : Int) := hm1
  obtain ⟨n, hn⟩ : ∃ n : Nat, n = 2 + m := ⟨_, rfl⟩
  have hmn : (2 : Int) + (m : Int) = (n : Int) := by omega
  have hn2 : 2 ≤ n := by omega
  have hn3 : n ≤ 21 := by omega
  clear hn
  obtain ⟨a, ha, ha1⟩ := rem_at p1 (show 0 < n by omega)
  obtain ⟨b, hb, hb1⟩ := rem_at p2 (show 0 < n by omega)
  obtain ⟨i3, hi3, hz0, hz1, hz2⟩ := info_parts info43
  go_enter Try.func6, Try.ntmps6
  go_wp2_with fail
  refine (chain20 n (by omega) false w).mono ?_
  rintro e w1 hd
  obtain ⟨v, rows, K, t, rfl, H, hO, hC⟩ := (Iff.of_eq (ChainDid.eq_1 ..)).1 hd
  have hT := hO.tabAt H
  have hF := chain_fits hC (by omega)
  have hE := chain_edge hC
  have hUp : Up n none := fun a b e => by cases e
  have hR := hO.rows H
  have hrl : rows.length = n := by rw [hO.1, hC.1]
  obtain ⟨nm, hta⟩ := hC.2 a ha
  obtain ⟨fv, hra, hfl⟩ := hO.2 a _ hta
  obtain ⟨Af, cf, rfl, hrf⟩ := hfl.rows H
  have hfn : Af = none → cf = 0 := fun e => by
    rcases hfl with ⟨e1, _⟩ | ⟨g, f, c, e1, _⟩
    · simp only [Value.slice.injEq] at e1; exact e1.2.2
    · simp only [Value.slice.injEq] at e1; rw [e1.1] at e; cases e
  generalize hfs : chF n false a = fs at hta hra hfl hrf
  have hfsl : fs.length ≤ 1 := by rw [← hfs]; unfold chF; split <;> simp
  obtain ⟨A, c, rfl, hr, -⟩ := H.parts
  obtain ⟨bb, off, rfl, hc⟩ := hr a _ hra
  have hlt : a < rows.length := by omega
  rw [hrl] at H hT ⊢
  obtain ⟨rfl, ff, lb⟩ := H.free3 hlt
  have k0 := hc 0 _ rfl
  have k1 := hc 1 _ rfl
  have k2 := hc 2 _ rfl
  simp only [Nat.zero_add, Nat.add_zero] at k0 k1 k2
  have hrl2 := hrl
  have hlt2 := hlt
  clear hd hr hc hfl hmn hm1 hm hfs hrl hlt
  go_wp2_with fail
  go_loopg [9] n (fun kq v9 w' => ∃ i : Nat, v9 = .int .i64 (i : Int) ∧ kq + i = n ∧ Upd [] w1 w')
  case atStart => exact ⟨0, rfl, rfl, Upd.refl _ _⟩
  case round =>
    obtain ⟨i, rfl, hk, U1⟩ := hrel
    by_cases hi : i < n
    · have y1 : decide ((i : Int) < (n : Int)) = true := decide_eq_true (by omega)
      have y2 : ((n : Int) - 1 - (i : Int) != (n : Int) - 1 - (i : Int)) = false := by simp
      go_wp2_with fail
      refine (depth17 (hT.keep U1) hF i).mono ?_
      rintro e w2 hd
      obtain ⟨d, rfl, hD, u7⟩ := (Iff.of_eq (DepthDid.eq_1 ..)).1 hd
      obtain rfl := hE.depth hUp hD
      rw [if_pos (by omega)]
      clear hd hD
      go_wp2_with fail
      go_roundg (gk - 1)
      case measure => omega
      case rel => exact ⟨i + 1, by go_num, by omega, U1.trans u7⟩
    · have y1 : decide ((i : Int) < (n : Int)) = false := decide_eq_false (by omega)
      have q0 : (1 : Int) ≤ (n : Int) := by omega
      have q1 : (0 : Int) < (n : Int) := by omega
      have q2 : (a : Int) < (n : Int) := by omega
      have H1 := H.upd U1
      have l0 := U1.cell k0 (by simp)
      have l1 := U1.cell k1 (by simp)
      have l2 := U1.cell k2 (by simp)
      clear H hT k0 k1 k2 hk
      go_wp2_with fail
      go_quiet (fail)
      have U2 := (Upd.refl [] wr).drewN nq
      have H2 := H1.upd U2
      replace l0 := U2.cell l0 (by simp)
      replace l1 := U2.cell l1 (by simp)
      replace l2 := U2.cell l2 (by simp)
      have hrf2 := (hrf.keep U1).keep U2
      generalize wr.drewN nq = w5 at H2 U2 l0 l1 l2 hrf2 ⊢
      have H3 := H2.alloc (.cells #[.string nm, .int .i64 8, .slice Af fs.length cf] 41)
      have H4 := H3.row1 43 5 #[] rfl
      have hp4 : PartAt ((w5.alloc (.cells #[.string nm, .int .i64 8, .slice Af fs.length cf] 41)).alloc (.cells #[] 43)) (.slice Af fs.length cf) 5 (fs.map encF) := ⟨Af, cf, by rw [List.length_map], (hrf2.keep ((Upd.refl _ _).alloc _)).keep ((Upd.refl _ _).alloc _), hfn⟩
      rw [alloc_size] at H4
      go_upto_region 11 with (at_builtin; first
        | (refine wl_flds rfl _ _ rfl _ _ rfl H4 _ fs rfl hp4 (by simp; omega) ?_; intro v' w6 H5; clear H4)
        | go_loud (have H6 := H5.alloc (.cells (encF ⟨⟨#[120]⟩, 1, 8, (b : Int), 0⟩).toArray 43); refine wl_fld rfl _ _ rfl v' ([] ++ fs.map encF) rfl ⟨⟨#[120]⟩, 1, 8, (b : Int), 0⟩ H6 1 rfl (by rw [List.nil_append, List.length_map]; omega) ?_; intro v2 w7 H7; rw [List.nil_append, show fs.map encF ++ [encF ⟨⟨#[120]⟩, 1, 8, (b : Int), 0⟩] = (fs ++ [(⟨⟨#[120]⟩, 1, 8, (b : Int), 0⟩ : Fld)]).map encF by rw [List.map_append]; rfl] at H7; obtain ⟨A2, c2, rfl, hr2, -, -, -⟩ := H7.parts; rw [List.length_map, List.length_append, List.length_singleton] at H7 ⊢; have hb7 := H7.blk (b := w5.heap.size) (o := .cells #[.string nm, .int .i64 8, .slice Af fs.length cf] 41) (by simp); have c70 : w7.cell? ⟨w5.heap.size, 2, none⟩ = some (.slice Af fs.length cf) := cell_of hb7 2; have c71 := frozen_of hb7 2; have c72 := lt_of_heap hb7))
      have hlb : bb < w5.heap.size := by have := U1.size; have := U2.size; omega
      generalize hv2 : Value.slice A2 (fs.length + 1) c2 = v2 at H7 ⊢
      have hb8 : (w7.setCell ⟨w5.heap.size, 2, none⟩ v2).heap[w5.heap.size]? = some (.cells #[.string nm, .int .i64 8, v2] 41) := heap_setCell_same hb7 2 v2
      have H8 := (H7.drop ((w5.heap.size, .cells #[.string nm, .int .i64 8, .slice Af fs.length cf] 41) :: K) (fun p hp => by rcases List.mem_cons.1 hp with rfl | hp <;> simp [*])).set ((Upd.refl [w5.heap.size] w7).setCell ⟨w5.heap.size, 2, none⟩ v2 (.inl (by simp))) hb8 (fun p hp e => by have := lt_of_heap (H2.blk (b := p.1) (o := p.2) hp); omega)
      generalize w7.setCell ⟨w5.heap.size, 2, none⟩ v2 = w8 at H8 hb8 ⊢
      clear hb7 c70 c71 c72 H7 H5 H3 hp4
      have H9 := H8.swap
      obtain ⟨-, ff9, lb9⟩ := H9.free3 hlt2
      have c80 : w8.cell? ⟨w5.heap.size, 0, none⟩ = some (.string nm) := cell_of hb8 0
      have c81 : w8.cell? ⟨w5.heap.size, 1, none⟩ = some (.int .i64 8) := cell_of hb8 1
      have c82 : w8.cell? ⟨w5.heap.size, 2, none⟩ = some v2 := cell_of hb8 2
      obtain ⟨A9, c9, e9, hr9, -⟩ := H9.parts
      obtain ⟨bb9, off9, e9', hc9⟩ := hr9 a _ hra
      rw [hrl2] at e9
      cases e9
      cases e9'
      have k0 := hc9 0 _ rfl
      have k1 := hc9 1 _ rfl
      have k2 := hc9 2 _ rfl
      simp only [Nat.zero_add, Nat.add_zero] at k0 k1 k2
      have f0 := ff9 (a * 3)
      have f1 := ff9 (a * 3 + 1)
      have f2 := ff9 (a * 3 + 2)
      have H10 := H9.set3 hlt2 (.string nm) (.int .i64 8) v2
      rw [Nat.zero_add] at H10
      unfold Ytojjjkeciiieeaa.set3 at H10
      clear hr9 hc9 ff9 hb8 H8
      subst hv2
      go_wp2_with fail
      generalize ((w8.setCell ⟨bb, a * 3, none⟩ (.string nm)).setCell ⟨bb, a * 3 + 1, none⟩ (.int .i64 8)).setCell ⟨bb, a * 3 + 2, none⟩ (.slice A2 (fs.length + 1) c2) = w9 at H10 ⊢
      obtain ⟨A3, c3, e3, hr3, -⟩ := H10.swap.parts
      simp only [Value.slice.injEq] at e3
      obtain ⟨rfl, -, rfl⟩ := e3
      have hal := (List.getElem?_eq_some_iff.1 hta).1
      have hlf : (fs ++ [(⟨⟨#[120]⟩, 1, 8, (b : Int), 0⟩ : Fld)]).length = fs.length + 1 := by simp
      have hR9 := (hO.rows (H10.drop K (fun p hp => List.mem_cons_of_mem _ hp))).set hal (ty := ⟨nm, 8, fs ++ [(⟨⟨#[120]⟩, 1, 8, (b : Int), 0⟩ : Fld)]⟩) (cf := c2) hr3
      have hTn : TabAt w9 (.slice (some ⟨bb, 0, none⟩) n c) (t.set a ⟨nm, 8, fs ++ [(⟨⟨#[120]⟩, 1, 8, (b : Int), 0⟩ : Fld)]⟩) := by
        have e : [Value.string nm, .int .i64 8, .slice A2 (fs.length + 1) c2] = tyRow ⟨nm, 8, fs ++ [(⟨⟨#[120]⟩, 1, 8, (b : Int), 0⟩ : Fld)]⟩ (.slice A2 (fs ++ [(⟨⟨#[120]⟩, 1, 8, (b : Int), 0⟩ : Fld)]).length c2) := by simp only [tyRow, hlf]
        rw [e] at H10
        exact hR9.tabAt H10
      have hEn := edge_more hE hta ⟨⟨#[120]⟩, 1, 8, (b : Int), 0⟩ rfl ⟨by simp, by simpa using hb⟩
      have hFn := set_fits hF a (ty := ⟨nm, 8, fs ++ [(⟨⟨#[120]⟩, 1, 8, (b : Int), 0⟩ : Fld)]⟩) (by simp; omega)
      have U9 := H10.u
      change EdgeT _ n (some ((a : Int), (b : Int))) at hEn
      generalize t.set a ⟨nm, 8, fs ++ [(⟨⟨#[120]⟩, 1, 8, (b : Int), 0⟩ : Fld)]⟩ = tn at hTn hEn hFn
      clear H10 hR9 hr3 hlf H9 hO hR hE hta hra hrf hrf2 H1 H2 c80 c81 c82 k0 k1 k2 f0 f1 f2 l0 l1 l2 hr2 U1 U2
      refine (check10 hTn hFn).mono ?_
      rintro e w10 hd
      obtain ⟨s, L, rfl, hN, hS⟩ := (Iff.of_eq (CheckDid.eq_1 ..)).1 hd
      obtain ⟨A1, c1, rfl, hr1⟩ := hN.look
      have U10 := U9.trans hN.2
      have hT10 := hTn.keep hN.2
      clear hd hN U9 hTn
      by_cases hab : a < b
      · have z1 : decide ((a : Int) < (b : Int)) = true := decide_eq_true (by omega)
        have hUpn : Up n (some ((a : Int), (b : Int))) := fun _ _ e => by cases e; omega
        obtain rfl := hEn.self_no hUpn hS
        have z2 : ((n : Int) - 1 == (n : Int) - 1) = true := by simp
        rw [if_pos rfl]
        go_wp2_with fail
        refine (depth17 hT10 hFn 0).mono ?_
        rintro e w11 hd
        obtain ⟨d, rfl, hD, u7⟩ := (Iff.of_eq (DepthDid.eq_1 ..)).1 hd
        obtain rfl : d = (n : Int) - 1 := by
          have := hEn.depth hUpn hD
          rw [if_pos (by omega)] at this
          omega
        clear hd hD
        go_wp2_with fail
        refine (works _).mono ?_
        rintro e w12 ⟨rfl, U12⟩
        go_wp2_with fail
        go_ret
        exact ⟨rfl, (U10.trans u7).trans U12⟩
      · have z1 : decide ((a : Int) < (b : Int)) = false := decide_eq_false (by omega)
        have hL := hEn.round_list (by omega) (by omega) (by omega) hS
        have hLl : L.length = ((a : Int) - b + 1).toNat := by rw [hL]; simp
        have hLi : ∀ i, i < L.length → L[i]? = some ((b : Int) + (i : Int)) := fun i hi => by
          rw [hLl] at hi
          rw [hL, List.getElem?_map, List.getElem?_range hi]
          rfl
        have hz := hEn.round_zero (by omega) (by omega) (by omega)
        have hLn : L ≠ [] := fun e => by rw [e] at hLl; simp at hLl; omega
        rw [if_neg hLn]
        have z3 : ((L.length : Int) != (a : Int) - (b : Int) + 1) = false := by
          rw [hLl]; simp; omega
        clear hL hLl hLn
        have hLb : L.length ≤ 21 := by have := hS.len; rw [hEn.1] at this; omega
        have HLi : Unit → ∀ i, i < L.length → L[i]? = some ((b : Int) + (i : Int)) := fun _ => hLi
        clear hLi
        go_wp2_with fail
        clear z3
        go_loopg [15] L.length (fun kq v15 w' => ∃ i : Nat, v15 = .int .i64 (i : Int) ∧ kq + i = L.length ∧ Upd [] w10 w')
        case atStart => exact ⟨0, rfl, rfl, Upd.refl _ _⟩
        case round =>
          obtain ⟨i, rfl, hk, U1⟩ := hrel
          by_cases hi2 : i < L.length
          · have y1 : decide ((i : Int) < (L.length : Int)) = true := decide_eq_true (by omega)
            obtain ⟨b1, o1, rfl, k1⟩ := one_cell (hr1.keep U1) (HLi () i hi2)
            have y2 : (i : Int) < (L.length : Int) := by omega
            have y3 : ((b : Int) + (i : Int) != (b : Int) + (i : Int)) = false := by simp
            have hself : Unit → _ := fun _ => (hS.2 _).1 (List.mem_of_getElem? (HLi () i hi2))
            go_wp2_with fail
            refine (depth17 (hT10.keep U1) hFn ((b : Int) + (i : Int))).mono ?_
            rintro e w11 hd
            obtain ⟨d, rfl, hD, u7⟩ := (Iff.of_eq (DepthDid.eq_1 ..)).1 hd
            obtain rfl := depthIs_not (fun hf => hf.1 (hself ()).2) hD
            clear hd hD
            go_wp2_with fail
            go_roundg (gk - 1)
            case measure => omega
            case rel => exact ⟨i + 1, by go_num, by omega, U1.trans u7⟩
          · have y1 : decide ((i : Int) < (L.length : Int)) = false := decide_eq_false (by omega)
            go_wp2_with fail
            refine (depth17 (hT10.keep U1) hFn 0).mono ?_
            rintro e w11 hd
            obtain ⟨d, rfl, hD, u7⟩ := (Iff.of_eq (DepthDid.eq_1 ..)).1 hd
            obtain rfl := depthIs_not hz hD
            have U11 := U1.trans u7
            clear hd hD
            by_cases han : n ≤ a + 1
            · have z4 : decide ((n : Int) ≤ (a : Int) + 1) = true := decide_eq_true (by omega)
              go_wp2_with fail
              refine (works _).mono ?_
              rintro e w12 ⟨rfl, U12⟩
              go_wp2_with fail
              go_ret
              exact ⟨rfl, (U10.trans U11).trans U12⟩
            · have z4 : decide ((n : Int) ≤ (a : Int) + 1) = false := decide_eq_false (by omega)
              have z5 : ((n : Int) - 2 - (a : Int) == (n : Int) - 2 - (a : Int)) = true := by simp
              go_wp2_with fail
              refine (depth17 (hT10.keep U11) hFn ((a : Int) + 1)).mono ?_
              rintro e w12 hd
              obtain ⟨d, rfl, hD, u8⟩ := (Iff.of_eq (DepthDid.eq_1 ..)).1 hd
              have hd2 := hEn.dp_of ((a : Int) + 1) (by omega) (fun x y e => by cases e; left; omega) ((n : Int) - 2 - (a : Int)).toNat ((a : Int) + 1) (by omega) (by omega)
              have hdd := depthIs_fine (by rw [hEn.1]; omega) (hEn.fine_up (by omega)) hD
              obtain rfl : d = (n : Int) - 2 - (a : Int) := by rw [hdd, hd2]; omega
              clear hd hD hd2 hdd
              go_wp2_with fail
              refine (works _).mono ?_
              rintro e w13 ⟨rfl, U13⟩
              go_wp2_with fail
              go_ret
              exact ⟨rfl, ((U10.trans U11).trans u8).trans U13⟩
end Go.Proofs.Ytojjjkeciiieeaa
