/- owns: whom a type holds it reaches, and all that these reach, and nobody else. -/
import Derived.Test.YtojjjkeciiieeaaOLaw1
namespace Go.Proofs.Ytojjjkeciiieeaa
open Go.RowKit
set_option linter.unusedVariables false
set_option linter.unusedSimpArgs false
set_option linter.unusedSectionVars false
theorem depthIs_bd {t : Tab} {i d : Int} (hd : DepthIs t i d) : -1 ≤ d ∧ d ≤ (t.length : Int) := by
  have := dp_bd t i
  rcases hd with ⟨_, e⟩ | ⟨_, _, e⟩ | ⟨_, _, e⟩ <;> omega
theorem rch_cases {f : Int → List Int} {i y : Int} (h : Rch f i y) : y ∈ f i ∨ ∃ k ∈ f i, Rch f k y := by
  cases h with
  | one h => exact .inl h
  | step h g => exact .inr ⟨_, h, g⟩
theorem self_all {t : Tab} (hL : SelfUpto t t.length []) (k : Int) (hk : 0 ≤ k ∧ k < (t.length : Int)) : Fine (adj t) k :=
  Classical.byContradiction fun h => self_none hk h hL rfl
set_option maxRecDepth 100000 in
set_option maxHeartbeats 8000000 in
theorem steps_walk (A : Option Addr) (ca : Nat) (t : Tab) (w : World) (hT : TabAt w (.slice A t.length ca) t) (hL : ∀ ty ∈ t, ty.fs.length ≤ maxLen) :
    Calls Try.prog 4 #[.slice A t.length ca] w fun e w' => e = .returned (.bool true) ∧ Upd [] w w' := by
  by_cases c0 : heavyT t = true
  · go_enter Try.func4, Try.ntmps4
    go_wp2_with fail
    refine (heavy8 hT hL).mono ?_
    rintro e w1 ⟨rfl, rfl⟩
    rw [c0]
    go_wp2_with fail
    refine (works _).mono ?_
    rintro e w1 ⟨rfl, U⟩
    go_wp2_with fail
    go_ret
    exact ⟨rfl, U⟩
  replace c0 : heavyT t = false := by simpa using c0
  obtain ⟨hF, hl12, -⟩ := heavyT_fits c0
  go_enter Try.func4, Try.ntmps4
  go_wp2_with fail
  refine (heavy8 hT hL).mono ?_
  rintro e w1 ⟨rfl, rfl⟩
  rw [c0]
  clear c0
  go_wp2_with fail
  refine (check10 hT hF).mono ?_
  rintro e w1 hd
  obtain ⟨s, L, rfl, hN, hS⟩ := (Iff.of_eq (CheckDid.eq_1 ..)).1 hd
  obtain ⟨A1, c1, rfl, hr1⟩ := hN.look
  have U := hN.2
  have hLl := hS.len
  have hT1 := hT.keep U
  have HQ : Unit → (L = [] → (if L = [] then (0 : Int) else 110) = 0) ∧ (L ≠ [] → (if L = [] then (0 : Int) else 110) = 110) := fun _ => ⟨fun h => if_pos h, fun h => if_neg h⟩
  generalize (if L = [] then (0 : Int) else 110) = q at HQ ⊢
  clear hd hN hT
  go_wp2_with fail
  go_loopg [5] t.length (fun kq v5 w' => ∃ i : Nat, v5 = .int .i64 (i : Int) ∧ kq + i = t.length ∧ Upd [] w1 w')
  case atStart => exact ⟨0, rfl, rfl, Upd.refl _ _⟩
  case round =>
    obtain ⟨i, rfl, hk, U1⟩ := hrel
    obtain ⟨g1, hg1⟩ : ∃ g, g = gk := ⟨_, rfl⟩
    have hT2 := hT1.keep U1
    by_cases hi : i < t.length
    · have y1 : decide ((i : Int) < (t.length : Int)) = true := decide_eq_true (by omega)
      have hir : (0 : Int) ≤ (i : Int) ∧ (i : Int) < (t.length : Int) := by omega
      go_wp2_with fail
      refine (holds13 hT2 hF i).mono ?_
      rintro e w2 ⟨s, rfl, hN⟩
      obtain ⟨A2, c2, rfl, hr2⟩ := hN.look
      have U2 := U1.trans hN.2
      have hT3 := hT2.keep hN.2
      clear hN hT2 U1
      go_wp2_with fail
      refine (reach15 hT3 hF i).mono ?_
      rintro e w3 hd
      obtain ⟨s, R, rfl, hN, hR⟩ := (Iff.of_eq (ReachDid.eq_1 ..)).1 hd
      obtain ⟨A3, c3, rfl, hr3⟩ := hN.look
      have U3 := U2.trans hN.2
      have hT4 := hT3.keep hN.2
      have hr2' := hr2.keep hN.2
      have hRl : R.length ≤ t.length := hR.1.bound fun k hk => ((hR.2 k).1 hk).within (adj_within t)
      have hAl : (adj t i).length ≤ t.length := (adj_rising t i).bound fun k hk => adj_within t i k hk
      clear hN hT3 U2 hd hr2
      go_wp2_with fail
      go_loopg [8, 9] (adj t i).length (fun kq v8 v9 w' => ∃ (j D : Nat), v8 = .int .i64 (D : Int) ∧ v9 = .int .i64 (j : Int) ∧ kq + j = (adj t i).length ∧ Upd [] w3 w' ∧ D ≤ t.length + 1 ∧ (L = [] → D = mxs (((adj t i).take j).map (dp t))))
      case atStart => exact ⟨0, 0, rfl, rfl, rfl, Upd.refl _ _, by omega, fun _ => rfl⟩
      case round =>
        obtain ⟨j, D, rfl, rfl, hk2, U4, hD1, hD2⟩ := hrel
        obtain ⟨g2, hg2⟩ : ∃ g, g = gk := ⟨_, rfl⟩
        have HD : Unit → (L = [] → D = mxs (((adj t i).take j).map (dp t))) := fun _ => hD2
        clear hD2
        have hr4 := hr2'.keep U4
        have hr5 := hr3.keep U4
        by_cases hj : j < (adj t i).length
        · have y2 : decide ((j : Int) < ((adj t i).length : Int)) = true := decide_eq_true (by omega)
          obtain ⟨k, hkj⟩ : ∃ k, (adj t i)[j]? = some k := ⟨_, List.getElem?_eq_getElem hj⟩
          have hka := List.mem_of_getElem? hkj
          have hkr := adj_within t _ _ hka
          obtain ⟨b2, o2, rfl, k2⟩ := one_cell hr4 hkj
          have y3 : (j : Int) < ((adj t i).length : Int) := by omega
          go_wp2_with fail
          refine (has19 A3 c3 R k _ hr5 (by omega)).mono ?_
          rintro e w4 ⟨rfl, rfl⟩
          rw [decide_eq_true ((hR.2 k).2 (.one hka))]
          go_wp2_with fail
          refine (reach15 (hT4.keep U4) hF k).mono ?_
          rintro e w4 hd
          obtain ⟨s, R2, rfl, hN, hR2⟩ := (Iff.of_eq (ReachDid.eq_1 ..)).1 hd
          obtain ⟨A4, c4, rfl, hr6⟩ := hN.look
          have U5 := U4.trans hN.2
          replace k2 := hN.2.cell k2 (by simp)
          have hRl2 : R2.length ≤ t.length := hR2.1.bound fun k hk => ((hR2.2 k).1 hk).within (adj_within t)
          clear hN hd hr4 hr5 U4
          go_wp2_with fail
          go_loopg [11] R2.length (fun kq v11 w' => ∃ m : Nat, v11 = .int .i64 (m : Int) ∧ kq + m = R2.length ∧ w4 = w')
          case atStart => exact ⟨0, rfl, rfl, rfl⟩
          case round =>
            obtain ⟨m, rfl, hk3, rfl⟩ := hrel
            by_cases hm : m < R2.length
            · have y4 : decide ((m : Int) < (R2.length : Int)) = true := decide_eq_true (by omega)
              obtain ⟨y, hy⟩ : ∃ y, R2[m]? = some y := ⟨_, List.getElem?_eq_getElem hm⟩
              obtain ⟨b6, o6, rfl, k6⟩ := one_cell hr6 hy
              have y5 : (m : Int) < (R2.length : Int) := by omega
              go_wp2_with fail
              refine (has19 A3 c3 R y _ (hr3.keep U5) (by omega)).mono ?_
              rintro e w5 ⟨rfl, rfl⟩
              rw [decide_eq_true ((hR.2 y).2 (.step hka ((hR2.2 y).1 (List.mem_of_getElem? hy))))]
              go_wp2_with fail
              go_roundg (gk - 1)
              case measure => omega
              case rel => exact ⟨m + 1, by go_num, by omega, rfl⟩
            · have y4 : decide ((m : Int) < (R2.length : Int)) = false := decide_eq_false (by omega)
              go_wp2_with fail
              refine (depth17 (hT4.keep U5) hF k).mono ?_
              rintro e w5 hd
              obtain ⟨d, rfl, hDe, U6⟩ := (Iff.of_eq (DepthDid.eq_1 ..)).1 hd
              have hdb := depthIs_bd hDe
              have HF : Unit → L = [] → d = (dp t k : Int) := fun _ hl => depthIs_fine hkr (self_all (hl ▸ hS) k hkr) hDe
              clear hd hDe
              have U7 := U5.trans U6
              have HD3 : Unit → L = [] → max D (d + 1).toNat = mxs (((adj t i).take (j + 1)).map (dp t)) := fun _ hl => by
                rw [List.take_add_one, hkj, List.map_append, HD () hl, HF () hl]
                show _ = mxs (_ ++ [dp t k])
                rw [mxs_snoc]
                omega
              have hmx : max (D : Int) (d + 1) = ((max D (d + 1).toNat : Nat) : Int) := by omega
              have hmb : max D (d + 1).toNat ≤ t.length + 1 := by omega
              generalize max D (d + 1).toNat = D' at HD3 hmx hmb
              clear HD HF hkj
              go_wp2_with fail
              go_roundg (g2 - 1)
              case measure => omega
              case rel => exact ⟨j + 1, D', by first | rfl | (rw [hmx]) | go_num, by go_num, by omega, U7, hmb, HD3 ()⟩
        · have y2 : decide ((j : Int) < ((adj t i).length : Int)) = false := decide_eq_false (by omega)
          have HD4 : Unit → L = [] → D = dp t i := fun _ hl => by
            have := HD () hl
            rw [List.take_of_length_le (by omega)] at this
            rw [this, dp_next hir (self_all (hl ▸ hS) i hir)]
          clear HD
          go_wp2_with fail
          clear hr4 hr5
          go_loopg [12] R.length (fun kq v12 w' => ∃ m : Nat, v12 = .int .i64 (m : Int) ∧ kq + m = R.length ∧ Upd [] w3 w')
          case atStart => exact ⟨0, rfl, rfl, U4⟩
          case round =>
            clear U4
            obtain ⟨m, rfl, hk3, U5⟩ := hrel
            obtain ⟨g3, hg3⟩ : ∃ g, g = gk := ⟨_, rfl⟩
            by_cases hm : m < R.length
            · have y4 : decide ((m : Int) < (R.length : Int)) = true := decide_eq_true (by omega)
              obtain ⟨y, hy⟩ : ∃ y, R[m]? = some y := ⟨_, List.getElem?_eq_getElem hm⟩
              have hyR := (hR.2 y).1 (List.mem_of_getElem? hy)
              obtain ⟨b3, o3, rfl, k3⟩ := one_cell (hr3.keep U5) hy
              have y5 : (m : Int) < (R.length : Int) := by omega
              go_wp2_with fail
              refine (has19 A2 c2 (adj t i) y _ (hr2'.keep U5) (by omega)).mono ?_
              rintro e w4 ⟨rfl, rfl⟩
              go_wp2_with fail
              go_loopg [13, 14] (adj t i).length (fun kq v13 v14 w' => ∃ (j : Nat) (bb : Bool), v13 = .bool bb ∧ v14 = .int .i64 (j : Int) ∧ kq + j = (adj t i).length ∧ Upd [] w3 w' ∧ (bb = true ∨ (y ∉ adj t i ∧ ∀ k ∈ (adj t i).take j, ¬ Rch (adj t) k y)))
              case atStart => exact ⟨0, _, rfl, rfl, rfl, U5, by by_cases h : y ∈ adj t i <;> simp [h]⟩
              case round =>
                clear U5
                obtain ⟨j, bb, rfl, rfl, hk4, U5, hbb⟩ := hrel
                have HB : Unit → (bb = true ∨ (y ∉ adj t i ∧ ∀ k ∈ (adj t i).take j, ¬ Rch (adj t) k y)) := fun _ => hbb
                clear hbb
                by_cases hj : j < (adj t i).length
                · have y6 : decide ((j : Int) < ((adj t i).length : Int)) = true := decide_eq_true (by omega)
                  obtain ⟨k, hkj⟩ : ∃ k, (adj t i)[j]? = some k := ⟨_, List.getElem?_eq_getElem hj⟩
                  have hka := List.mem_of_getElem? hkj
                  obtain ⟨b2, o2, rfl, k2⟩ := one_cell (hr2'.keep U5) hkj
                  have y7 : (j : Int) < ((adj t i).length : Int) := by omega
                  replace k3 := (hr3.keep U5)
                  obtain ⟨b3', o3', e3, k3⟩ := one_cell k3 hy
                  cases e3
                  go_wp2_with fail
                  refine (reach15 (hT4.keep U5) hF k).mono ?_
                  rintro e w5 hd
                  obtain ⟨s, R2, rfl, hN, hR2⟩ := (Iff.of_eq (ReachDid.eq_1 ..)).1 hd
                  obtain ⟨A4, c4, rfl, hr6⟩ := hN.look
                  have U6 := U5.trans hN.2
                  replace k3 := hN.2.cell k3 (by simp)
                  have hRl2 : R2.length ≤ t.length := hR2.1.bound fun k hk => ((hR2.2 k).1 hk).within (adj_within t)
                  clear hN hd U5
                  cases bb with
                  | true =>
                    go_wp2_with fail
                    go_roundg (gk - 1)
                    case measure => omega
                    case rel => exact ⟨j + 1, true, rfl, by go_num, by omega, U6, .inl rfl⟩
                  | false =>
                    have HB2 : Unit → (decide (y ∈ R2) = true ∨ (y ∉ adj t i ∧ ∀ k ∈ (adj t i).take (j + 1), ¬ Rch (adj t) k y)) := fun _ => by
                      by_cases h : y ∈ R2
                      · exact .inl (decide_eq_true h)
                      · obtain ⟨h1, h2⟩ := (HB ()).resolve_left (by simp)
                        refine .inr ⟨h1, fun z hz => ?_⟩
                        rw [List.take_add_one, hkj] at hz
                        rcases List.mem_append.1 hz with h3 | h3
                        · exact h2 z h3
                        · obtain rfl : z = k := by simpa using h3
                          exact fun hr => h ((hR2.2 y).2 hr)
                    go_wp2_with fail
                    refine (has19 A4 c4 R2 y _ hr6 (by omega)).mono ?_
                    rintro e w6 ⟨rfl, rfl⟩
                    go_wp2_with fail
                    go_roundg (gk - 1)
                    case measure => omega
                    case rel => exact ⟨j + 1, _, rfl, by go_num, by omega, U6, HB2 ()⟩
                · have y6 : decide ((j : Int) < ((adj t i).length : Int)) = false := decide_eq_false (by omega)
                  obtain rfl : bb = true := (HB ()).resolve_right fun ⟨h1, h2⟩ => by
                    rcases rch_cases hyR with h | ⟨k, hk, hr⟩
                    · exact h1 h
                    · rw [List.take_of_length_le (by omega)] at h2
                      exact h2 k hk hr
                  go_wp2_with fail
                  go_roundg (g3 - 1)
                  case measure => omega
                  case rel => exact ⟨m + 1, by go_num, by omega, U5⟩
            · have y4 : decide ((m : Int) < (R.length : Int)) = false := decide_eq_false (by omega)
              have U6 := U3.trans U5
              have hiff : decide ((i : Int) ∈ L) = decide ((i : Int) ∈ R) := by
                have : (i : Int) ∈ L ↔ (i : Int) ∈ R := by rw [hS.2, hR.2]; exact ⟨fun h => h.2, fun h => ⟨hir, h⟩⟩
                simp only [this]
              go_wp2_with fail
              refine (has19 A3 c3 R i _ (hr3.keep U5) (by omega)).mono ?_
              rintro e w4 ⟨rfl, rfl⟩
              go_wp2_with fail
              refine (has19 A1 c1 L i _ (hr1.keep U6) (by omega)).mono ?_
              rintro e w4 ⟨rfl, rfl⟩
              rw [hiff]
              generalize decide ((i : Int) ∈ R) = bR
              have hbR : (bR != bR) = false := by simp
              by_cases hLe : L = []
              · obtain rfl := (HQ ()).1 hLe
                obtain rfl := HD4 () hLe
                have HE : Unit → L = [] := fun _ => hLe
                have hdl := dep_lt (adj_within t) hir (self_all (hLe ▸ hS) i hir) t.length
                change dp t i < t.length at hdl
                have q1 : ((dp t i : Int) != (dp t i : Int)) = false := by simp
                have q2 : decide ((t.length : Int) ≤ (dp t i : Int)) = false := decide_eq_false (by omega)
                clear hLe
                go_wp2_with fail
                refine (depth17 (hT4.keep U5) hF i).mono ?_
                rintro e w5 hd
                obtain ⟨d, rfl, hDe, U7⟩ := (Iff.of_eq (DepthDid.eq_1 ..)).1 hd
                obtain rfl := depthIs_fine hir (self_all (HE () ▸ hS) i hir) hDe
                clear hd hDe
                go_wp2_with fail
                go_roundg (g1 - 1)
                case measure => omega
                case rel => exact ⟨i + 1, by go_num, by omega, U6.trans U7⟩
              · obtain rfl := (HQ ()).2 hLe
                go_wp2_with fail
                go_roundg (g1 - 1)
                case measure => omega
                case rel => exact ⟨i + 1, by go_num, by omega, U6⟩
    · have y1 : decide ((i : Int) < (t.length : Int)) = false := decide_eq_false (by omega)
      by_cases hLe : L = []
      · obtain rfl := (HQ ()).1 hLe
        subst hLe
        go_wp2_with fail
        refine (works _).mono ?_
        rintro e w5 ⟨rfl, U6⟩
        go_wp2_with fail
        go_ret
        exact ⟨rfl, (U.trans U1).trans U6⟩
      · obtain rfl := (HQ ()).2 hLe
        have z3 : ((L.length : Int) == 0) = false := by simp; intro e; exact hLe (by simpa using e)
        go_wp2_with fail
        refine (works _).mono ?_
        rintro e w5 ⟨rfl, U6⟩
        go_wp2_with fail
        go_ret
        exact ⟨rfl, (U.trans U1).trans U6⟩
end Go.Proofs.Ytojjjkeciiieeaa
