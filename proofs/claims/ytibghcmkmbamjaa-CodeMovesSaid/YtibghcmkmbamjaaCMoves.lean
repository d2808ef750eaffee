/- code: CodeMoves' walk. -/
import Derived.Test.YtibghcmkmbamjaaCAlive
import Derived.Test.YtibghcmkmbamjaaCPl3
namespace Go.Proofs.Ytibghcmkmbamjaa
open Go.RowKit Go.Shelf
set_option linter.unusedVariables false
set_option linter.unusedSimpArgs false
set_option linter.unusedSectionVars false
theorem nrows_len (l : List Ins) : ∀ r ∈ l.map encN, r.length = 5 := fun r hr => by
  obtain ⟨x, _, rfl⟩ := List.mem_map.1 hr
  rfl
theorem nrows_one (l : List Ins) : ∀ r ∈ l.map encN, ∀ u ∈ r, u.oneCell' = true := fun r hr u hu => by
  obtain ⟨x, _, rfl⟩ := List.mem_map.1 hr
  simp [encN] at hu
  rcases hu with rfl | rfl | rfl | rfl | rfl <;> rfl
theorem next_small {l : List Ins} (hok : ∀ x ∈ l, OkI x) {a y : Int} (ha : 0 ≤ a ∧ a ≤ 2000) (hy : y ∈ nextP l a) : -40000 ≤ y ∧ y ≤ 40000 := by
  have ho : -32768 ≤ offP l a ∧ offP l a ≤ 32767 := by
    unfold offP
    split
    · rename_i i hi
      have := hok i (List.mem_of_getElem? hi)
      exact ⟨this.o0, this.o1⟩
    · omega
  have hs := szK_bd (kindP l a)
  unfold nextP at hy
  repeat' split at hy
  all_goals
    simp at hy <;> omega
section
variable {A : Option Addr} {l : List Ins} {w : World}
set_option maxRecDepth 100000 in
set_option maxHeartbeats 16000000 in
theorem moves13 (c : Nat) (n : Int) (hn : 0 ≤ n ∧ n ≤ 255) (hA : RowsAt w A 5 (l.map encN)) (hc : A = none → c = 0) (hok : ∀ x ∈ l, OkI x) (hll : l.length ≤ maxLen) :
    Calls Try.prog 13 #[.slice A l.length c, .int .u8 n] w fun e w' => e = .returned (.bool true) ∧ Upd [] w w' := by
  have hal := fun W => alive32 W
  unfold maxLen at hll
  by_cases g1 : 200 < l.length
  · have z1 : decide ((200 : Int) < (l.length : Int)) = true := decide_eq_true (by omega)
    clear hA hc g1
    go_enter Try.func13, Try.ntmps13
    go_wp2_with fail
    refine (hal _).mono ?_
    rintro e w1 ⟨rfl, u1⟩
    go_wp2_with fail
    go_ret
    exact ⟨rfl, u1⟩
  have z1 : decide ((200 : Int) < (l.length : Int)) = false := decide_eq_false (by omega)
  by_cases g2 : l.length = 0
  · have z2 : ((l.length : Int) == 0) = true := by simp [g2]
    clear hA hc g2
    go_enter Try.func13, Try.ntmps13
    go_wp2_with fail
    refine (hal _).mono ?_
    rintro e w1 ⟨rfl, u1⟩
    go_wp2_with fail
    go_ret
    exact ⟨rfl, u1⟩
  have z2 : ((l.length : Int) == 0) = false := by
    have : ¬ (l.length : Int) = 0 := by omega
    simpa using this
  have hck := check33 (w := w) c hA hok
  by_cases g3 : (checkP l).2.2 = 0
  · have hF := check_fine g3
    rw [hF.check] at hck
    clear g3
    obtain ⟨k, hk, hk20⟩ : ∃ k : Nat, n % 20 = (k : Int) ∧ k < 20 := ⟨(n % 20).toNat, by omega, by omega⟩
    go_enter Try.func13, Try.ntmps13
    go_wp2_with fail
    refine hck.mono ?_
    rintro e w1 ⟨va, rfl, H1⟩
    obtain ⟨Aa, ca, rfl, ra⟩ := H1.row
    rw [List.length_map]
    have U1 := H1.u
    clear hck H1
    go_wp2_with fail
    rw [hk]
    clear hk hn
    have H0 := (SepK.start w1).row0 24 5
    obtain ⟨i0, hi0, hz0, hz1, hz2⟩ := info_parts info24
    go_loopg [10, 9] k (fun kq v10 v9 w' => ∃ i : Nat, v10 = .int .i64 (i : Int) ∧ kq + i = k ∧ SepK w1 w' [] (star (rowR 24 5 v9 ((List.replicate i movI).map encN)) emp))
    case atStart => exact ⟨0, rfl, rfl, H0⟩
    case round =>
      clear H0
      obtain ⟨i, rfl, hkq, hS⟩ := hrel
      by_cases hi : i < k
      · have y1 : decide ((i : Int) < (k : Int)) = true := decide_eq_true (by omega)
        have y5 : IntKind.i64.wrap ((i : Int) + 1) = (i : Int) + 1 := IntWalk.i64_in _ (by omega)
        have hts : (List.replicate (i + 1) movI).map encN = (List.replicate i movI).map encN ++ [encN movI] := by
          rw [List.replicate_succ', List.map_append]; rfl
        have htl : ((List.replicate i movI).map encN).length ≤ 2000 := by simp; omega
        generalize (List.replicate i movI).map encN = rows at hS hts htl
        clear hF hA ra
        go_wp2_with fail
        refine (mov43 wr).mono ?_
        rintro e w2 ⟨rfl, u2⟩
        have h5 := (hS.upd u2).alloc (.cells (encN movI).toArray 24)
        have hnew := cell_five w2 movI
        clear hS
        go_wp2_with (at_builtin; refine wl_append rfl _ _ 43 rfl 24 i0 (.agg #[.int .u8 0, .int .u8 0, .int .u8 0, .int .i16 0, .int .i32 0]) 5 12 Try.underlying43 hi0 hz0 hz1 hz2 rfl (by decide) _ _ rfl h5 ⟨w2.heap.size, 0, none⟩ 1 (encN movI) rfl rfl hnew (fun x hx => by simp [encN] at hx; rcases hx with rfl | rfl | rfl | rfl | rfl <;> rfl) (by unfold maxLen; omega) (by omega) ?_; intro v' w5 h8)
        go_roundg (gk - 1)
        case measure => omega
        case rel => exact ⟨i + 1, by go_num, by omega, by rw [hts]; exact h8.drop [] (by simp)⟩
      · have y1 : decide ((i : Int) < (k : Int)) = false := decide_eq_false (by omega)
        obtain rfl : i = k := by omega
        have hA2 := (hA.keep U1).keep hS.u
        have pA : PartAt wr (.slice A l.length c) 5 (l.map encN) := ⟨A, c, by rw [List.length_map], hA2, hc⟩
        have hmv : (List.replicate i movI).map encN ++ l.map encN = (mv i l).map encN := by unfold mv; rw [List.map_append]
        have hmo : ∀ x ∈ mv i l, OkI x := fun x hx => by
          unfold mv at hx
          rcases List.mem_append.1 hx with h | h
          · rw [(List.mem_replicate.1 h).2]; exact ok_lit (by decide)
          · exact hok x h
        have hml : Unit → (mv i l).length = i + l.length := fun _ => mv_len
        have hnx : ∀ a : Int, 0 ≤ a → nextP (mv i l) (a + i) = (nextP l a).map (· + (i : Int)) := fun a ha => nextP_hi ha
        go_wp2_with (at_builtin; refine wl_part rfl (.tmp 51) (.tmp 52) 43 rfl 24 i0 _ 5 12 Try.underlying43 hi0 hz0 hz1 hz2 rfl (by decide) _ _ rfl hS _ (l.map encN) rfl pA (nrows_len l) (nrows_one l) (by unfold maxLen; simp; omega) (by simp; omega) ?_; intro v4 w4 H4)
        rw [hmv] at H4
        obtain ⟨Am, cm, rfl, rm⟩ := H4.row
        rw [List.length_map] at H4 ⊢
        have hA4 := (hA.keep U1).keep H4.u
        have ra4 := ra.keep H4.u
        have U4 := U1.trans H4.u
        have hFm := fun h0 => mv_fine (k := i) hF h0 (by omega)
        have hsm := fun h0 (j : Nat) s (hj : (subsP l)[j]? = some s) => subs_mv (k := i) hF.toStraight h0 hj
        have hsl := fun h0 => subs_mv_len (k := i) hF.toStraight h0
        have hfew := hF.few
        have hab : ∀ a ∈ allP l, 0 ≤ a ∧ a < (l.length : Int) := fun a ha => allP_bd ha
        have hbd : ∀ s ∈ subsP l, (0 ≤ s.1 ∧ s.1 ≤ 200) ∧ (0 ≤ s.2 ∧ s.2 ≤ 200) := fun s hs => by
          obtain ⟨q, hq⟩ := List.getElem?_of_mem hs
          have := hF.rows.sub hq
          exact ⟨by omega, by omega⟩
        clear hA ra pA hmv hA2 H4 hS hc hF hi
        generalize mv i l = m at *
        go_wp2_with fail
        go_loopg [11, 12, 13, 14, 15, 16] l.length (fun kq v11 v12 v13 v14 v15 v16 w' => ∃ j : Nat, v11 = .int .i64 (j : Int) ∧ kq + j = l.length ∧ Upd [] w4 w' ∧ ∀ a : Int, 0 ≤ a → a < (j : Int) → calleeP l a ≠ some 0)
        case atStart => exact ⟨0, rfl, rfl, Upd.refl _ _, fun a h0 h1 => by omega⟩
        case round =>
          obtain ⟨j, rfl, hkj, hU, hno⟩ := hrel
          have HNO : Unit → ∀ a : Int, 0 ≤ a → a < (j : Int) → calleeP l a ≠ some 0 := fun _ => hno
          clear hno
          by_cases hj : j < l.length
          · have y1 : decide ((j : Int) < (l.length : Int)) = true := decide_eq_true (by omega)
            have y5 : IntKind.i64.wrap ((j : Int) + 1) = (j : Int) + 1 := IntWalk.i64_in _ (by omega)
            have y6 : IntKind.i64.wrap ((j : Int) + (i : Int)) = (j : Int) + (i : Int) := IntWalk.i64_in _ (by omega)
            have hcc : Calls Try.prog 37 #[.slice A l.length c, .int .i64 (j : Int)] wr fun e w' => ∃ (t : Int) (bn : Bool), e = .returned (.tuple #[.int .i64 t, .bool bn]) ∧ Upd [] wr w' ∧ ((bn = true ∧ (t == 0) = true) ∨ (bn = false ∧ calleeP l (j : Int) ≠ some 0) ∨ (bn = true ∧ (t == 0) = false ∧ calleeP l (j : Int) ≠ some 0)) := by
              refine (callee37 c (hA4.keep hU) hok (j : Int) (by omega)).mono ?_
              rintro e w' ⟨rfl, u⟩
              cases ho : calleeP l (j : Int) with
              | none => exact ⟨0, false, rfl, u, .inr (.inl ⟨rfl, by simp⟩)⟩
              | some t =>
                by_cases ht : t = 0
                · exact ⟨t, true, rfl, u, .inl ⟨rfl, by simp [ht]⟩⟩
                · exact ⟨t, true, rfl, u, .inr (.inr ⟨rfl, by simpa using ht, by simpa using ht⟩)⟩
            have hsm14 : ∀ y ∈ nextP l (j : Int), -40000 ≤ y ∧ y ≤ 40000 := fun y hy => next_small hok (by omega) hy
            have hnxj := hnx (j : Int) (by omega)
            obtain ⟨g1, hg1⟩ : ∃ g, g = gk := ⟨_, rfl⟩
            go_wp2_with fail
            refine hcc.mono ?_
            rintro e w5 ⟨t, bn, rfl, u5, hq⟩
            have U5 := hU.trans u5
            have N1 := next38 (K := []) (T := emp) c (SepK.start w5) (hA4.keep U5) hok (j : Int) (by omega)
            clear hcc
            rcases hq with ⟨rfl, z⟩ | ⟨rfl, hne⟩ | ⟨rfl, z, hne⟩
            · clear N1
              go_wp2_with fail
              refine (hal _).mono ?_
              rintro e w6 ⟨rfl, u6⟩
              go_wp2_with fail
              go_ret
              exact ⟨rfl, (U4.trans U5).trans u6⟩
            all_goals
              have HN2 : Unit → ∀ a : Int, 0 ≤ a → a < ((j + 1 : Nat) : Int) → calleeP l a ≠ some 0 := fun _ a h0 h1 => by
                by_cases e : a = (j : Int)
                · rw [e]; exact hne
                · exact HNO () a h0 (by omega)
              clear hne
              go_wp2_with fail
              refine N1.mono ?_
              rintro e w6 ⟨v14, rfl, H6⟩
              obtain ⟨A14, c14, rfl, -⟩ := H6.row
              rw [List.length_map] at H6 ⊢
              have U6 := U5.trans H6.u
              have N2 := next38 cm H6 (rm.keep U6) hmo ((j : Int) + (i : Int)) (by rw [hml ()]; omega)
              rw [hnxj] at N2
              clear N1 H6
              go_wp2_with fail
              refine N2.mono ?_
              rintro e w7 ⟨v15, rfl, H7⟩
              obtain ⟨A15, c15, rfl, r15⟩ := H7.row
              obtain ⟨A14', c14', e14, r14⟩ := H7.swap.row
              rw [List.length_map] at e14
              cases e14
              rw [List.length_map, List.length_map]
              have U7 := U5.trans H7.u
              clear N2 H7
              have hX2 : (nextP l (j : Int)).length ≤ 100000 := by have := nextP_len (l := l) (j : Int); omega
              generalize nextP l (j : Int) = X at *
              have zx : ((X.length : Int) != (X.length : Int)) = false := by simp
              go_wp2_with fail
              go_loopg [16] X.length (fun kq v16 w' => ∃ q : Nat, v16 = .int .i64 (q : Int) ∧ kq + q = X.length ∧ Upd [] w7 w')
              case atStart => exact ⟨0, rfl, rfl, Upd.refl _ _⟩
              case round =>
                obtain ⟨q, rfl, hkx, hUq⟩ := hrel
                by_cases hq : q < X.length
                · have x1 : decide ((q : Int) < (X.length : Int)) = true := decide_eq_true (by omega)
                  have x2 : (0 : Int) ≤ (q : Int) := by omega
                  have x3 : (q : Int) < (X.length : Int) := by omega
                  have x5 : IntKind.i64.wrap ((q : Int) + 1) = (q : Int) + 1 := IntWalk.i64_in _ (by have : X.length ≤ 100000 := hX2; omega)
                  obtain ⟨y, hy⟩ : ∃ y, X[q]? = some y := ⟨_, List.getElem?_eq_getElem hq⟩
                  have hyb := hsm14 y (List.mem_of_getElem? hy)
                  have x6 : IntKind.i64.wrap (y + (i : Int)) = y + (i : Int) := IntWalk.i64_in _ (by omega)
                  have x7 : (y + (i : Int) != y + (i : Int)) = false := by simp
                  obtain ⟨b14, o14, rfl, k14⟩ := cellZ (r14.keep hUq) hy
                  obtain ⟨b15, o15, rfl, k15⟩ := cellZ (r15.keep hUq) (i := q) (x := y + (i : Int)) (by rw [List.getElem?_map, hy]; rfl)
                  clear hy hyb
                  go_wp2_with fail
                  go_quiet (fail)
                  go_wp2_with fail
                  go_roundg (gk - 1)
                  case measure => omega
                  case rel => exact ⟨q + 1, by go_num, by omega, hUq.drewN _⟩
                · have x1 : decide ((q : Int) < (X.length : Int)) = false := decide_eq_false (by omega)
                  go_wp2_with fail
                  go_roundg (g1 - 1)
                  case measure => omega
                  case rel => exact ⟨j + 1, by go_num, by omega, U7.trans hUq, HN2 ()⟩
          · have y1 : decide ((j : Int) < (l.length : Int)) = false := decide_eq_false (by omega)
            have h0 : ∀ a ∈ allP l, calleeP l a ≠ some 0 := fun a ha => HNO () a (hab a ha).1 (by have := (hab a ha).2; omega)
            have hFm' := hFm h0
            have hckm := check33 (w := wr) cm (rm.keep hU) hmo
            rw [hFm'.check] at hckm
            have hsm' := hsm h0
            have hsl' := hsl h0
            clear hFm hsm hsl h0 HNO hFm'
            go_wp2_with fail
            refine hckm.mono ?_
            rintro e w8 ⟨vb, rfl, H8⟩
            obtain ⟨Ab, cb, rfl, rb⟩ := H8.row
            have U8 := hU.trans H8.u
            have ra8 := ra4.keep U8
            clear hckm H8
            generalize subsP m = sm at *
            have hss2 : (subsP l).length ≤ 100000 := by have := hfew; omega
            generalize subsP l = ss at *
            rw [List.length_map, hsl'] 
            have zx : ((ss.length : Int) != (ss.length : Int)) = false := by simp
            clear hsl'
            go_wp2_with fail
            go_loopg [20] ss.length (fun kq v20 w' => ∃ q : Nat, v20 = .int .i64 (q : Int) ∧ kq + q = ss.length ∧ Upd [] w8 w')
            case atStart => exact ⟨0, rfl, rfl, Upd.refl _ _⟩
            case round =>
              obtain ⟨q, rfl, hkx, hUq⟩ := hrel
              by_cases hq : q < ss.length
              · have x1 : decide ((q : Int) < (ss.length : Int)) = true := decide_eq_true (by omega)
                have x2 : (0 : Int) ≤ (q : Int) := by omega
                have x3 : (q : Int) < (ss.length : Int) := by omega
                obtain ⟨s, hs⟩ : ∃ s, ss[q]? = some s := ⟨_, List.getElem?_eq_getElem hq⟩
                have hb := hbd s (List.mem_of_getElem? hs)
                have x5 : IntKind.i64.wrap ((q : Int) + 1) = (q : Int) + 1 := IntWalk.i64_in _ (by have : ss.length ≤ 100000 := hss2; omega)
                have x6 : IntKind.i64.wrap (s.1 + (i : Int)) = s.1 + (i : Int) := IntWalk.i64_in _ (by omega)
                have x7 : IntKind.i64.wrap (s.2 + (i : Int)) = s.2 + (i : Int) := IntWalk.i64_in _ (by omega)
                have x8 : (s.1 + (i : Int) != s.1 + (i : Int)) = false := by simp
                have x9 : (s.2 + (i : Int) != s.2 + (i : Int)) = false := by simp
                have hsq := hsm' q s hs
                obtain ⟨ba, oa, rfl, a0, a1⟩ := cellS (ra8.keep hUq) hs
                by_cases hz : q = 0
                · have z5 : decide ((0 : Int) < (q : Int)) = false := decide_eq_false (by omega)
                  have z5n : decide (0 < q) = false := decide_eq_false (by omega)
                  have z6 : ((q : Int) == 0) = true := by simp [hz]
                  rw [if_pos hz] at hsq
                  obtain ⟨bb, ob, rfl, b0, b1⟩ := cellS (rb.keep hUq) hsq
                  simp only at b0 b1
                  clear hs hb hsq hz
                  go_wp2_with fail
                  go_quiet (fail)
                  go_wp2_with fail
                  go_roundg (gk - 1)
                  case measure => omega
                  case rel => exact ⟨q + 1, by go_num, by omega, hUq.drewN _⟩
                · have z5 : decide ((0 : Int) < (q : Int)) = true := decide_eq_true (by omega)
                  have z5n : 0 < q := by omega
                  have z6 : ((q : Int) == 0) = false := by
                    have : ¬ (q : Int) = 0 := by omega
                    simpa using this
                  rw [if_neg hz] at hsq
                  obtain ⟨bb, ob, rfl, b0, b1⟩ := cellS (rb.keep hUq) hsq
                  simp only at b0 b1
                  clear hs hb hsq hz
                  go_wp2_with fail
                  go_quiet (fail)
                  go_wp2_with fail
                  go_roundg (gk - 1)
                  case measure => omega
                  case rel => exact ⟨q + 1, by go_num, by omega, hUq.drewN _⟩
              · have x1 : decide ((q : Int) < (ss.length : Int)) = false := decide_eq_false (by omega)
                go_wp2_with fail
                refine (hal _).mono ?_
                rintro e w9 ⟨rfl, u9⟩
                go_wp2_with fail
                go_ret
                exact ⟨rfl, ((U4.trans U8).trans hUq).trans u9⟩
  · have z3 : ((checkP l).2.2 != 0) = true := by simpa using g3
    clear g3
    generalize (checkP l).2.2 = ee at hck z3
    go_enter Try.func13, Try.ntmps13
    go_wp2_with fail
    refine hck.mono ?_
    rintro e w1 ⟨va, rfl, H1⟩
    have U1 := H1.u
    obtain ⟨Aa, ca, rfl, -⟩ := H1.row
    clear hck H1
    go_wp2_with fail
    refine (hal _).mono ?_
    rintro e w2 ⟨rfl, u2⟩
    go_wp2_with fail
    go_ret
    exact ⟨rfl, U1.trans u2⟩
end
end Go.Proofs.Ytibghcmkmbamjaa
