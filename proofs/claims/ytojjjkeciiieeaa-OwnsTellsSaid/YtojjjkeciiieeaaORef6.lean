/- owns: the document's Depth. -/
import Derived.Test.YtojjjkeciiieeaaORef5
import Derived.Test.YtojjjkeciiieeaaOSink
namespace Go.Proofs.Ytojjjkeciiieeaa
open Go.RowKit
set_option linter.unusedVariables false
set_option linter.unusedSimpArgs false
set_option linter.unusedSectionVars false
def encN (d : Nat) : List Value := [.int .i64 (d : Int)]
theorem SepK.nats {w0 w : World} {K : List (Nat × Obj)} {T : Res} [Good T] (H : SepK w0 w K T) (m : Nat) (hm : m ≤ 1000) : SepK w0 (w.alloc (.cells (madeCells #[.int .i64 0] (m * 1)) 3)) K (star (rowR 3 1 (.slice (some ⟨w.heap.size, 0, none⟩) m m) ((List.replicate m 0).map encN)) T) := by
  have el : ((List.replicate m 0).map encN) = List.replicate m [.int .i64 0] := by rw [List.map_replicate]; rfl
  rw [el]
  refine H.more ((Upd.refl [] w).alloc _) (M := fun b => b = w.heap.size) ?_ (fun b hb => by omega)
  refine ⟨⟨?_, .inr ⟨w.heap.size, m, _, by rw [List.length_replicate], Nat.zero_le _, heap_alloc_new _ _, by rw [List.length_replicate]; exact Nat.le_refl _, by unfold maxLen; omega, by simp [madeCells], ?_⟩⟩, fun r hr => by rw [List.eq_of_mem_replicate hr]; rfl, fun g hg => by cases hg; rfl⟩
  · rw [flatten_len (k := 1) (fun r hr => by rw [List.eq_of_mem_replicate hr]; rfl)]
  · rw [List.length_replicate, made_one, List.take_of_length_le (by simp)]
def SinkDid (t : Tab) (w : World) (g : Nat) (D : List Nat) (w' : World) : Prop := SepK w w' [] (star (rowR 3 1 (.slice (some ⟨g, 0, none⟩) t.length t.length) (D.map encN)) emp)
set_option maxRecDepth 100000 in
set_option maxHeartbeats 8000000 in
theorem rDepth18 {t : Tab} {v : Value} {w : World} (hT : TabAt w v t) (hF : Fits t) (i : Int) : Calls Try.prog 18 #[v, .int .i64 i] w (DepthDid t i w) := by
  obtain ⟨A, c, rfl, -⟩ := id hT
  have htl := hF.1
  by_cases hi : 0 ≤ i ∧ i < (t.length : Int)
  · have y1 : decide (i < 0) = false := decide_eq_false (by omega)
    have y2 : decide ((t.length : Int) ≤ i) = false := decide_eq_false (by omega)
    go_enter Try.func18, Try.ntmps18
    go_wp2_with fail
    refine (rself22 hT hF i hi).mono ?_
    rintro e w1 ⟨b, rfl, hb, U1⟩
    cases b with
    | true =>
      have hd : DepthIs t i (-1) := .inr (.inl ⟨hi, fun hf => hf.1 (hb.1 rfl), rfl⟩)
      clear hb
      go_wp2_with fail
      go_ret
      exact (Iff.of_eq (DepthDid.eq_1 ..)).2 ⟨_, rfl, hd, U1⟩
    | false =>
      have hns : ¬ Rch (adj t) i i := fun h => by have := hb.2 h; cases this
      clear hb
      go_wp2_with fail
      refine (rReach16 (hT.keep U1) hF i).mono ?_
      rintro e w2 hd
      obtain ⟨s, L, rfl, hN, hRL⟩ := (Iff.of_eq (ReachDid.eq_1 ..)).1 hd
      obtain ⟨A1, c1, rfl, hr1⟩ := hN.look
      have U2 := U1.trans hN.2
      have hLl : L.length ≤ t.length := hRL.1.bound fun k hk => ((hRL.2 k).1 hk).within (adj_within t)
      clear hN hd
      go_wp2_with fail
      go_loopg [6] L.length (fun kq v6 w' => ∃ n : Nat, v6 = .int .i64 (n : Int) ∧ kq + n = L.length ∧ Upd [] w2 w' ∧ ∀ x ∈ L.take n, ¬ Rch (adj t) x x)
      case atStart => exact ⟨0, rfl, rfl, Upd.refl _ _, by simp⟩
      case round =>
        obtain ⟨n, rfl, hk, U3, hno⟩ := hrel
        have HNO : Unit → ∀ x ∈ L.take n, ¬ Rch (adj t) x x := fun _ => hno
        clear hno
        by_cases hn : n < L.length
        · have z1 : decide ((n : Int) < (L.length : Int)) = true := decide_eq_true (by omega)
          obtain ⟨x, hx⟩ : ∃ x, L[n]? = some x := ⟨_, List.getElem?_eq_getElem hn⟩
          have hxR := (hRL.2 x).1 (List.mem_of_getElem? hx)
          have hxr := hxR.within (adj_within t)
          obtain ⟨b1, o1, rfl, k1⟩ := one_cell (hr1.keep U3) hx
          have z2 : (n : Int) < (L.length : Int) := by omega
          go_wp2_with fail
          refine (rself22 (hT.keep (U2.trans U3)) hF x hxr).mono ?_
          rintro e w3 ⟨b, rfl, hb, U4⟩
          cases b with
          | true =>
            have hd : DepthIs t i (-1) := .inr (.inl ⟨hi, fun hf => hf.2 x hxR (hb.1 rfl), rfl⟩)
            clear hb
            go_wp2_with fail
            go_ret
            exact (Iff.of_eq (DepthDid.eq_1 ..)).2 ⟨_, rfl, hd, (U2.trans U3).trans U4⟩
          | false =>
            have HNO2 : Unit → ∀ x ∈ L.take (n + 1), ¬ Rch (adj t) x x := fun _ z hz => by
              rw [List.take_add_one, hx] at hz
              rcases List.mem_append.1 hz with h | h
              · exact HNO () z h
              · simp at h; subst h; exact fun h => by have := hb.2 h; cases this
            clear hb hx HNO
            go_wp2_with fail
            go_roundg (gk - 1)
            case measure => omega
            case rel => exact ⟨n + 1, by go_num, by omega, U3.trans U4, HNO2 ()⟩
        · have z1 : decide ((n : Int) < (L.length : Int)) = false := decide_eq_false (by omega)
          have hfi : Fine (adj t) i := ⟨hns, fun k hk => by
            have := HNO () k (by rw [List.take_of_length_le (by omega)]; exact (hRL.2 k).2 hk)
            exact this⟩
          have U5 := U2.trans U3
          have hT5 := hT.keep U5
          clear HNO hk
          obtain ⟨i3, hi3, hz0, hz1, hz2⟩ := info_parts info3
          have hmk : ∀ w', (Instr.makeSlice 25 (.int .i64 (t.length : Int)) (.int .i64 (t.length : Int))).run Try.prog w' = .ok (.slice (some ⟨w'.heap.size, 0, none⟩) t.length t.length) (w'.alloc (.cells (madeCells #[.int .i64 0] t.length) 3)) := fun w' => by
            have := run_make (P := Try.prog) w' 25 3 i3 (.int .i64 0) Try.underlying25 hi3 hz0 .i64 .i64 (t.length : Int) (t.length : Int) (by omega) (by omega) (by rw [hz2]; omega) (by omega)
            rw [hz1, Nat.mul_one] at this
            exact this
          have H0 := ((SepK.start w).upd U5).nats t.length htl
          rw [Nat.mul_one] at H0
          have I0 := UpB.start t
          go_upto_region 10 with fail
          generalize List.replicate t.length 0 = D0 at H0 I0
          obtain ⟨g, hg⟩ : ∃ g, g = wr.heap.size := ⟨_, rfl⟩
          rw [← hg] at H0 ⊢
          generalize wr.alloc (.cells (madeCells #[.int .i64 0] t.length) 3) = w6 at H0 ⊢
          clear hg hmk
          go_wp2_with fail
          go_loopg [8] t.length (fun kq v8 w' => ∃ (n : Nat) (D : List Nat), v8 = .int .i64 (n : Int) ∧ kq + n = t.length ∧ SinkDid t w g D w' ∧ UpB t D ∧ LoB t n D)
          case atStart => exact ⟨0, D0, rfl, rfl, H0, I0, LoB.start t D0⟩
          case round =>
            clear H0 I0
            obtain ⟨n, D, rfl, hk, H, hU, hLo⟩ := hrel
            obtain ⟨g1, hg1⟩ : ∃ g, g = gk := ⟨_, rfl⟩
            by_cases hn2 : n < t.length
            · have y3 : decide ((n : Int) < (t.length : Int)) = true := decide_eq_true (by omega)
              go_wp2_with fail
              go_loopg [9] t.length (fun kq v9 w' => ∃ (k : Nat) (D' : List Nat), v9 = .int .i64 (k : Int) ∧ kq + k = t.length ∧ SinkDid t w g D' w' ∧ UpB t D' ∧ GeD D D' ∧ ∀ k' : Nat, k' < k → dep (adj t) (n + 1) (k' : Int) ≤ dAt D' k')
              case atStart => exact ⟨0, D, rfl, rfl, H, hU, fun _ => Nat.le_refl _, fun k' h => by omega⟩
              case round =>
                clear H hU
                obtain ⟨k, D', rfl, hk2, H, hU, hGe, hCv⟩ := hrel
                have HC : Unit → ∀ k' : Nat, k' < k → dep (adj t) (n + 1) (k' : Int) ≤ dAt D' k' := fun _ => hCv
                clear hCv
                obtain ⟨g2, hg2⟩ : ∃ g, g = gk := ⟨_, rfl⟩
                by_cases hkl : k < t.length
                · have x1 : decide ((k : Int) < (t.length : Int)) = true := decide_eq_true (by omega)
                  have HS : SepK w wr [] (star (rowR 3 1 (.slice (some ⟨g, 0, none⟩) t.length t.length) (D'.map encN)) emp) := H
                  go_wp2_with fail
                  refine (rHolds14 (hT.keep HS.u) hF (k : Int)).mono ?_
                  rintro e w7 ⟨s, rfl, hN⟩
                  have hAl : (adj t (k : Int)).length ≤ t.length := (adj_rising t k).bound fun x hx => adj_within t k x hx
                  obtain ⟨A2, c2, rfl, -⟩ := hN.look
                  have H1 := (HS.more hN.2 hN.1 (fun b hb => hb)).swap
                  clear hN HS H
                  go_wp2_with fail
                  go_loopg [11] (adj t (k : Int)).length (fun kq v11 w' => ∃ (j : Nat) (D2 : List Nat), v11 = .int .i64 (j : Int) ∧ kq + j = (adj t (k : Int)).length ∧ SepK w w' [] (star (rowR 3 1 (.slice (some ⟨g, 0, none⟩) t.length t.length) (D2.map encN)) (star (rowR 3 1 (.slice A2 (adj t (k : Int)).length c2) ((adj t (k : Int)).map encI)) emp)) ∧ UpB t D2 ∧ GeD D' D2 ∧ ∀ y ∈ (adj t (k : Int)).take j, min (dep (adj t) n y + 1) t.length ≤ dAt D2 k)
                  case atStart => exact ⟨0, D', rfl, by omega, H1, hU, fun _ => Nat.le_refl _, by simp⟩
                  case round =>
                    clear H1
                    obtain ⟨j, D2, rfl, hk3, H, hU2, hGe2, hM⟩ := hrel
                    have HM : Unit → ∀ y ∈ (adj t (k : Int)).take j, min (dep (adj t) n y + 1) t.length ≤ dAt D2 k := fun _ => hM
                    clear hM
                    by_cases hj : j < (adj t (k : Int)).length
                    · have x2 : decide ((j : Int) < ((adj t (k : Int)).length : Int)) = true := decide_eq_true (by omega)
                      obtain ⟨y, hy⟩ : ∃ y, (adj t (k : Int))[j]? = some y := ⟨_, List.getElem?_eq_getElem hj⟩
                      have hya := List.mem_of_getElem? hy
                      have hyr := adj_within t _ _ hya
                      obtain ⟨yn, rfl⟩ : ∃ yn : Nat, y = yn := ⟨y.toNat, by omega⟩
                      have hyn : yn < t.length := by omega
                      obtain ⟨A3, c3, e3, hr3, -⟩ := H.swap.parts
                      rw [List.length_map] at e3
                      cases e3
                      obtain ⟨b3, o3, rfl, k3⟩ := one_cell hr3 hy
                      obtain ⟨A8, c8, e8, hr8, -⟩ := H.parts
                      have hat : ∀ q : Nat, q < t.length → D2[q]? = some (dAt D2 q) := fun q hq => by
                        unfold dAt
                        rw [List.getD_eq_getElem?_getD, List.getElem?_eq_getElem (by rw [hU2.1]; exact hq)]; rfl
                      obtain ⟨g', off', e8', hc8⟩ := hr8 yn (encN (dAt D2 yn)) (by rw [List.getElem?_map, hat yn hyn]; rfl)
                      obtain ⟨g'', off'', e8'', hc9⟩ := hr8 k (encN (dAt D2 k)) (by rw [List.getElem?_map, hat k hkl]; rfl)
                      rw [List.length_map, hU2.1] at e8
                      cases e8
                      cases e8'
                      cases e8''
                      have kC := hc8 0 _ rfl
                      have kD := hc9 0 _ rfl
                      simp only [Nat.zero_add, Nat.add_zero, Nat.mul_one] at kC kD
                      obtain ⟨-, ff, lg⟩ := H.free1 (i := k) (by rw [List.length_map, hU2.1]; exact hkl)
                      have fC := ff k
                      have x3 : (j : Int) < ((adj t (k : Int)).length : Int) := by omega
                      have x4 : (yn : Int) < (t.length : Int) := hyr.2
                      have x5 : (k : Int) < (t.length : Int) := by omega
                      have bC := (hU2.2 yn hyn).1
                      have bD := (hU2.2 k hkl).1
                      have hmm : min (max (dAt D2 k : Int) ((dAt D2 yn : Int) + 1)) (t.length : Int) = ((min (max (dAt D2 k) (dAt D2 yn + 1)) t.length : Nat) : Int) := by omega
                      have H2 := H.set1 (i := k) (by rw [List.length_map, hU2.1]; exact hkl) (.int .i64 (min (max (dAt D2 k : Int) ((dAt D2 yn : Int) + 1)) (t.length : Int)))
                      rw [Nat.zero_add, show (D2.map encN).set k [.int .i64 (min (max (dAt D2 k : Int) ((dAt D2 yn : Int) + 1)) (t.length : Int))] = (sink t D2 k yn).map encN by unfold sink; rw [List.map_set, hmm]; rfl] at H2
                      have hU3 := hU2.sink hkl hya
                      have hGe3 := GeD.sink hU2 hkl yn
                      have hs3 := sink_at hU2 hkl yn
                      have hlo2 : dep (adj t) n (yn : Int) ≤ dAt D2 yn := Nat.le_trans (hLo yn hyn) (Nat.le_trans (hGe yn) (hGe2 yn))
                      have HM3 : Unit → ∀ z ∈ (adj t (k : Int)).take (j + 1), min (dep (adj t) n z + 1) t.length ≤ dAt (sink t D2 k yn) k := fun _ z hz => by
                        rw [List.take_add_one, hy] at hz
                        rcases List.mem_append.1 hz with h | h
                        · exact Nat.le_trans (HM () z h) (hGe3 k)
                        · simp at h; subst h; omega
                      have hGe4 : GeD D' (sink t D2 k yn) := fun q => Nat.le_trans (hGe2 q) (hGe3 q)
                      generalize dAt D2 k = dk at kD hmm bD H2
                      generalize dAt D2 yn = dy at kC hmm bC H2
                      generalize sink t D2 k yn = D3 at H2 hU3 hGe4 HM3
                      clear hmm hr3 hr8 hc8 hc9 ff HM hy hat hs3 hlo2 hGe3 hU2 hGe2 hya H
                      go_wp2_with fail
                      go_region
                      go_wp2_with fail
                      go_roundg (gk - 1)
                      case measure => omega
                      case rel => exact ⟨j + 1, D3, by go_num, by omega, H2.upd (Upd.refl [] _).drew, hU3, hGe4, HM3 ()⟩
                    · have x2 : decide ((j : Int) < ((adj t (k : Int)).length : Int)) = false := decide_eq_false (by omega)
                      have hdn := deep_next hn2 (fun y hy => HM () y (by rw [List.take_of_length_le (by omega)]; exact hy))
                      have hcv2 : Unit → ∀ k' : Nat, k' < k + 1 → dep (adj t) (n + 1) (k' : Int) ≤ dAt D2 k' := fun _ k' hk' => by
                        by_cases e : k' = k
                        · subst e; exact hdn
                        · exact Nat.le_trans (HC () k' (by omega)) (hGe2 k')
                      have H2 := H.imp fun _ h => star_imp h fun _ h => star_tail h
                      clear HM hk3 hdn
                      go_wp2_with fail
                      go_roundg (g2 - 1)
                      case measure => omega
                      case rel => exact ⟨k + 1, D2, by go_num, by omega, H2, hU2, fun q => Nat.le_trans (hGe q) (hGe2 q), hcv2 ()⟩
                · have x1 : decide ((k : Int) < (t.length : Int)) = false := decide_eq_false (by omega)
                  obtain rfl : k = t.length := by omega
                  have hlo2 : LoB t (n + 1) D' := fun q hq => HC () q hq
                  clear hk2 hg2 HC
                  go_wp2_with fail
                  go_roundg (g1 - 1)
                  case measure => omega
                  case rel => exact ⟨n + 1, D', by go_num, by omega, H, hU, hlo2⟩
            · have y3 : decide ((n : Int) < (t.length : Int)) = false := decide_eq_false (by omega)
              obtain rfl : n = t.length := by omega
              obtain ⟨ii, rfl⟩ : ∃ ii : Nat, i = ii := ⟨i.toNat, by omega⟩
              have hdd := deep_done hU hLo (k := ii) (by omega) hfi
              have H1 : SepK w wr _ (star (rowR 3 1 (.slice (some ⟨g, 0, none⟩) t.length t.length) (D.map encN)) emp) := H
              obtain ⟨A9, c9, e9, hr9, -⟩ := H1.parts
              obtain ⟨d0, hd0⟩ : ∃ d, D[ii]? = some d := ⟨_, List.getElem?_eq_getElem (by rw [hU.1]; omega)⟩
              obtain ⟨g', off', e9', hc9⟩ := hr9 ii (encN d0) (by rw [List.getElem?_map, hd0]; rfl)
              rw [List.length_map, hU.1] at e9
              cases e9
              cases e9'
              have kB := hc9 0 _ rfl
              simp only [Nat.zero_add, Nat.add_zero, Nat.mul_one] at kB
              have hD : DepthIs t (ii : Int) (d0 : Int) := .inr (.inr ⟨hi, hfi, by rw [← hdd]; unfold dAt; rw [List.getD_eq_getElem?_getD, hd0]; rfl⟩)
              have x1 : (0 : Int) ≤ (ii : Int) := by omega
              have x2 : (ii : Int) < (t.length : Int) := hi.2
              have U9 := H1.u
              clear hr9 hc9 hd0 hdd hU hLo H
              go_wp2_with fail
              go_ret
              exact (Iff.of_eq (DepthDid.eq_1 ..)).2 ⟨_, rfl, hD, U9⟩
  · have hd : DepthIs t i (-1) := .inl ⟨hi, rfl⟩
    go_enter Try.func18, Try.ntmps18
    by_cases h0 : i < 0
    · have y1 : decide (i < 0) = true := decide_eq_true h0
      go_wp2_with fail
      go_ret
      exact (Iff.of_eq (DepthDid.eq_1 ..)).2 ⟨_, rfl, hd, Upd.refl _ _⟩
    · have y1 : decide (i < 0) = false := decide_eq_false h0
      have y2 : decide ((t.length : Int) ≤ i) = true := decide_eq_true (by omega)
      go_wp2_with fail
      go_ret
      exact (Iff.of_eq (DepthDid.eq_1 ..)).2 ⟨_, rfl, hd, Upd.refl _ _⟩
end Go.Proofs.Ytojjjkeciiieeaa
