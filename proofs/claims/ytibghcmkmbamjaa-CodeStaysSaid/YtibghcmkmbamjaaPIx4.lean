
import Derived.Test.YtibghcmkmbamjaaGPI
namespace Go.Proofs.Ytibghcmkmbamjaa.PI
open Go.RowKit Go.Proofs.YtibghcmkmbamjaaW.PrintWords Go.Proofs.YtibghcmkmbamjaaW.PrintLast Go.Proofs.YtibghcmkmbamjaaW.PrintMore
attribute [local go_sem] max2_int min2_int max_two min_two max_three min_three max_four min_four   -- for this text's walks alone
set_option linter.unusedVariables false
set_option linter.unusedSimpArgs false
/-! ### insn_uses: function 53 (by hand) -/
set_option maxHeartbeats 8000000 in
set_option maxRecDepth 100000 in
theorem insn_uses1.calls (g : Nat) (all f : Int) (n r : Bool) (w : World) (hc : w.cell? ⟨g, 0, none⟩ = some (.int .i64 all)) (hr : ((Go.bits .and .i64 all f != 0) || n) = r) :
  Calls Try.prog 95 #[.int .i64 f, .bool n, .pointer (some ⟨g, 0, none⟩)] w fun e w' => e = .returned (.bool r) ∧ Drawn0 w w' := by
 subst hr
 by_cases c : Go.bits .and .i64 all f = 0
 · have c1 : (Go.bits .and .i64 all f != 0) = false := bne_eq_false_iff_eq.mpr c
   clear c
   rw [c1]
   go_enter Try.func95, Try.ntmps95
   go_wp2
   go_ret
   exact ⟨by simp, by repeat (first | exact Drawn0.refl _ | apply Drawn0.step)⟩
 · have c1 : (Go.bits .and .i64 all f != 0) = true := bne_iff_ne.mpr c
   clear c
   rw [c1]
   go_enter Try.func95, Try.ntmps95
   go_wp2
   go_ret
   exact ⟨by simp, by repeat (first | exact Drawn0.refl _ | apply Drawn0.step)⟩
theorem cell_dN {w : World} {n : Nat} {a : Addr} {v : Value} (h : w.cell? a = some v) : (w.drewN n).cell? a = some v := h
def usesOr (l : List Int) : Int := l.foldl (fun a x => Go.bits .or .i64 a x) 0
def usesB (all : Int) (a0_1 a0_2 a0_3 a0_4 : Int) : Bool :=
  ((Go.bits .and .i64 all 1 != 0) || (a0_1 == 0)) && ((Go.bits .and .i64 all 2 != 0) || (a0_2 == 0)) && ((Go.bits .and .i64 all 4 != 0) || (a0_3 == 0)) && ((Go.bits .and .i64 all 8 != 0) || (a0_4 == 0)) && decide (a0_1 < 11) && decide (a0_2 < 11)
def insn_uses.f (k : Nat) (a0_0 : Int) (a0_1 : Int) (a0_2 : Int) (a0_3 : Int) (a0_4 : Int) (l1 : List Int) : Option (Bool) := some (usesB (usesOr l1) a0_1 a0_2 a0_3 a0_4)
theorem insn_uses.mono : ∀ a0 a1 a2 a3 a4 a5 k, LeO (insn_uses.f k a0 a1 a2 a3 a4 a5) (insn_uses.f (k + 1) a0 a1 a2 a3 a4 a5) := fun _ _ _ _ _ _ _ => LeO.refl _
set_option maxHeartbeats 8000000 in
set_option maxRecDepth 100000 in
theorem insn_uses.calls (k : Nat) (a0_0 : Int) (a0_1 : Int) (a0_2 : Int) (a0_3 : Int) (a0_4 : Int) (A1 : Option Addr) (c1 : Nat) (l1 : List Int) (r : Bool) (w : World) (hr1 : Kd.C (Kd.int .i64) w A1 l1.length l1) (hc1 : l1.length ≤ c1) (h : insn_uses.f k a0_0 a0_1 a0_2 a0_3 a0_4 l1 = some r) :
  Calls Try.prog 53 #[.agg #[.int .u8 a0_0, .int .u8 a0_1, .int .u8 a0_2, .int .i16 a0_3, .int .i32 a0_4], .slice A1 l1.length c1] w fun e w' => e = .returned (.bool r) ∧ Below w.heap.size w w' := by
 have hu24 := Try.underlying24
 have HB := am (Below.refl w.heap.size w)
 obtain rfl := Option.some.inj h
 clear h
 have HR := am (Kd.reads_of_C (enc := Value.int .i64) (d := (0 : Int)) (h1 := fun _ => rfl) hr1)
 clear hr1
 go_enter Try.func53, Try.ntmps53
 go_wp2
 have hs0 := am (blk_alloc (blk_new w (.cells #[.int .u8 a0_0, .int .u8 a0_1, .int .u8 a0_2, .int .i16 a0_3, .int .i32 a0_4] 24 (0, 0))) (.cells #[.int .i64 0] 3 (0, 0)))
 have ha0 := am (blk_new (w.alloc (.cells #[.int .u8 a0_0, .int .u8 a0_1, .int .u8 a0_2, .int .i16 a0_3, .int .i32 a0_4] 24 (0, 0))) (.cells #[.int .i64 0] 3 (0, 0)))
 have hB0 := am (below_alloc (below_alloc HB.out (.cells #[.int .u8 a0_0, .int .u8 a0_1, .int .u8 a0_2, .int .i16 a0_3, .int .i32 a0_4] 24 (0, 0))) (.cells #[.int .i64 0] 3 (0, 0)))
 have hz : (w.alloc (.cells #[.int .u8 a0_0, .int .u8 a0_1, .int .u8 a0_2, .int .i16 a0_3, .int .i32 a0_4] 24 (0, 0))).heap.size = w.heap.size + 1 := by simp
 rw [hz] at ha0
 generalize (w.alloc (.cells #[.int .u8 a0_0, .int .u8 a0_1, .int .u8 a0_2, .int .i16 a0_3, .int .i32 a0_4] 24 (0, 0))).alloc (.cells #[.int .i64 0] 3 (0, 0)) = w1 at hs0 ha0 hB0 ⊢
 clear hz
 generalize hg : w.heap.size = g at hs0 ha0 ⊢
 generalize hg2 : g + 1 = g2 at ha0 ⊢
 have hg' := am hg
 have hg2' := am hg2
 clear hg hg2
 go_loopg [11] l1.length (fun kq v11 w' => ∃ (i : Nat), v11 = .int .i64 (i : Int) ∧ Aside0 (kq + i = l1.length) ∧ Aside0 (w'.heap[g]? = some (.cells #[.int .u8 a0_0, .int .u8 a0_1, .int .u8 a0_2, .int .i16 a0_3, .int .i32 a0_4] 24 (0, 0))) ∧ Aside0 (w'.heap[g2]? = some (.cells #[.int .i64 (usesOr (l1.take i))] 3 (0, 0))) ∧ Aside0 (Below w.heap.size w w'))
 case atStart => exact ⟨0, rfl, ⟨rfl⟩, hs0, ha0, hB0⟩
 case round =>
  obtain ⟨i, rfl, HI, BK, BA, HB⟩ := hrel
  have hi8 : i ≤ l1.length := by have := HI.out; omega
  by_cases c : (i : Int) < (l1.length : Int)
  · have c0 : decide ((i : Int) < (l1.length : Int)) = true := decide_eq_true c
    have HR' := am (ReadsOf.below HR.out HB.out)
    have hil : i < l1.length := by omega
    have hcA : wr.cell? ⟨g2, 0, none⟩ = some (.int .i64 (usesOr (l1.take i))) := (blk_cell BA.out 0).trans rfl
    have hfA : wr.frozen? ⟨g2, 0, none⟩ = false := blk_frozen BA.out 0
    obtain ⟨ad, rfl, hce⟩ := HR'.out.2.2 (by omega)
    obtain ⟨y, hy⟩ : ∃ y, y = l1.getD i 0 := ⟨_, rfl⟩
    have hcI : wr.cell? (ad.add i) = some (.int .i64 y) := by rw [hy]; exact hce i hil
    have hor : usesOr (l1.take (i + 1)) = Go.bits .or .i64 (usesOr (l1.take i)) y := by
      have e1 : l1.take (i + 1) = l1.take i ++ [y] := by
        rw [List.take_add_one, List.getElem?_eq_getElem hil, hy, List.getD_eq_getElem?_getD, List.getElem?_eq_getElem hil]
        rfl
      unfold usesOr
      rw [e1, List.foldl_append]
      rfl
    have hyy := am hy
    clear hy hce
    have hw1 : wrap64 ((i : Int) + 1) = ((i + 1 : Nat) : Int) := by
      have := HR.out.2.1
      have : (i : Int) + 1 ≤ 9223372036854775807 := by omega
      unfold wrap64
      omega
    have hn := am (blk_put BA.out 0 (.int .i64 (Go.bits .or .i64 (usesOr (l1.take i)) y)) (cs' := #[.int .i64 (usesOr (l1.take (i + 1)))]) (by rw [hor]; rfl))
    have hm := am (blk_far BK.out (p := ⟨g2, 0, none⟩) (by have := hg2'.out; simp; omega) (.int .i64 (Go.bits .or .i64 (usesOr (l1.take i)) y)))
    have hB' := am (below_set (j := 0) (v := .int .i64 (Go.bits .or .i64 (usesOr (l1.take i)) y)) HB.out (by have := hg'.out; have := hg2'.out; omega : w.heap.size ≤ g2))
    go_wp2
    obtain ⟨q, rfl⟩ : ∃ q, gk = q + 1 := ⟨gk - 1, by have := HI.out; omega⟩
    go_roundg q
    case measure => omega
    case rel => exact ⟨i + 1, by rw [hw1], ⟨by have := HI.out; omega⟩, hm, hn, hB'⟩
  · have c0 : decide ((i : Int) < (l1.length : Int)) = false := decide_eq_false c
    have h8 : i = l1.length := by omega
    subst h8
    have BA' : wr.heap[g2]? = some (.cells #[.int .i64 (usesOr l1)] 3 (0, 0)) := by have := BA.out; rwa [List.take_length] at this
    clear BA
    have hcA := am ((blk_cell BA' 0).trans rfl : wr.cell? ⟨g2, 0, none⟩ = some (.int .i64 (usesOr l1)))
    clear BA'
    have hcz0 : wr.cell? ⟨g, 0, none⟩ = some (.int .u8 a0_0) := (blk_cell BK.out 0).trans rfl
    have hcz1 : wr.cell? ⟨g, 1, none⟩ = some (.int .u8 a0_1) := (blk_cell BK.out 1).trans rfl
    have hcz2 : wr.cell? ⟨g, 2, none⟩ = some (.int .u8 a0_2) := (blk_cell BK.out 2).trans rfl
    have hcz3 : wr.cell? ⟨g, 3, none⟩ = some (.int .i16 a0_3) := (blk_cell BK.out 3).trans rfl
    have hcz4 : wr.cell? ⟨g, 4, none⟩ = some (.int .i32 a0_4) := (blk_cell BK.out 4).trans rfl
    have hq : usesB (usesOr l1) a0_1 a0_2 a0_3 a0_4 = usesB (usesOr l1) a0_1 a0_2 a0_3 a0_4 := rfl
    rcases hb1 : ((Go.bits .and .i64 (usesOr l1) 1 != 0) || (a0_1 == 0)) with _ | _
    · have H1 := am hb1
      clear hq
      have hv : usesB (usesOr l1) a0_1 a0_2 a0_3 a0_4 = false := by unfold usesB; rw [hb1]; rfl
      have HV := am hv
      clear hv hb1
      go_wp2_with (first | (go_at_call 95; (with_reducible refine (insn_uses1.calls g2 (usesOr l1) 1 (a0_1 == 0) false _ (by first | exact hcA.out | exact cell_dN hcA.out | exact cell_dN (cell_dN hcA.out) | exact cell_dN (cell_dN (cell_dN hcA.out))) H1.out).mono ?_); rintro e w21 ⟨rfl, ⟨nd1, rfl⟩⟩))
      go_ret
      exact ⟨by rw [HV.out]; rfl, by repeat (first | (with_reducible first | exact HB.out | apply below_alloc | apply pw_below_drewN | apply below_drew1) | exact HB.out)⟩
    · have H1 := am hb1
      rcases hb2 : ((Go.bits .and .i64 (usesOr l1) 2 != 0) || (a0_2 == 0)) with _ | _
      · have H2 := am hb2
        clear hq
        have hv : usesB (usesOr l1) a0_1 a0_2 a0_3 a0_4 = false := by unfold usesB; rw [hb1, hb2]; rfl
        have HV := am hv
        clear hv hb1 hb2
        go_wp2_with (first | (go_at_call 95; (with_reducible refine (insn_uses1.calls g2 (usesOr l1) 1 (a0_1 == 0) true _ (by first | exact hcA.out | exact cell_dN hcA.out | exact cell_dN (cell_dN hcA.out) | exact cell_dN (cell_dN (cell_dN hcA.out))) H1.out).mono ?_); rintro e w21 ⟨rfl, ⟨nd1, rfl⟩⟩) | (go_at_call 95; (with_reducible refine (insn_uses1.calls g2 (usesOr l1) 2 (a0_2 == 0) false _ (by first | exact hcA.out | exact cell_dN hcA.out | exact cell_dN (cell_dN hcA.out) | exact cell_dN (cell_dN (cell_dN hcA.out))) H2.out).mono ?_); rintro e w22 ⟨rfl, ⟨nd2, rfl⟩⟩))
        go_ret
        exact ⟨by rw [HV.out]; rfl, by repeat (first | (with_reducible first | exact HB.out | apply below_alloc | apply pw_below_drewN | apply below_drew1) | exact HB.out)⟩
      · have H2 := am hb2
        rcases hb3 : ((Go.bits .and .i64 (usesOr l1) 4 != 0) || (a0_3 == 0)) with _ | _
        · have H3 := am hb3
          clear hq
          have hv : usesB (usesOr l1) a0_1 a0_2 a0_3 a0_4 = false := by unfold usesB; rw [hb1, hb2, hb3]; rfl
          have HV := am hv
          clear hv hb1 hb2 hb3
          go_wp2_with (first | (go_at_call 95; (with_reducible refine (insn_uses1.calls g2 (usesOr l1) 1 (a0_1 == 0) true _ (by first | exact hcA.out | exact cell_dN hcA.out | exact cell_dN (cell_dN hcA.out) | exact cell_dN (cell_dN (cell_dN hcA.out))) H1.out).mono ?_); rintro e w21 ⟨rfl, ⟨nd1, rfl⟩⟩) | (go_at_call 95; (with_reducible refine (insn_uses1.calls g2 (usesOr l1) 2 (a0_2 == 0) true _ (by first | exact hcA.out | exact cell_dN hcA.out | exact cell_dN (cell_dN hcA.out) | exact cell_dN (cell_dN (cell_dN hcA.out))) H2.out).mono ?_); rintro e w22 ⟨rfl, ⟨nd2, rfl⟩⟩) | (go_at_call 95; (with_reducible refine (insn_uses1.calls g2 (usesOr l1) 4 (a0_3 == 0) false _ (by first | exact hcA.out | exact cell_dN hcA.out | exact cell_dN (cell_dN hcA.out) | exact cell_dN (cell_dN (cell_dN hcA.out))) H3.out).mono ?_); rintro e w23 ⟨rfl, ⟨nd3, rfl⟩⟩))
          go_ret
          exact ⟨by rw [HV.out]; rfl, by repeat (first | (with_reducible first | exact HB.out | apply below_alloc | apply pw_below_drewN | apply below_drew1) | exact HB.out)⟩
        · have H3 := am hb3
          rcases hb4 : ((Go.bits .and .i64 (usesOr l1) 8 != 0) || (a0_4 == 0)) with _ | _
          · have H4 := am hb4
            clear hq
            have hv : usesB (usesOr l1) a0_1 a0_2 a0_3 a0_4 = false := by unfold usesB; rw [hb1, hb2, hb3, hb4]; rfl
            have HV := am hv
            clear hv hb1 hb2 hb3 hb4
            go_wp2_with (first | (go_at_call 95; (with_reducible refine (insn_uses1.calls g2 (usesOr l1) 1 (a0_1 == 0) true _ (by first | exact hcA.out | exact cell_dN hcA.out | exact cell_dN (cell_dN hcA.out) | exact cell_dN (cell_dN (cell_dN hcA.out))) H1.out).mono ?_); rintro e w21 ⟨rfl, ⟨nd1, rfl⟩⟩) | (go_at_call 95; (with_reducible refine (insn_uses1.calls g2 (usesOr l1) 2 (a0_2 == 0) true _ (by first | exact hcA.out | exact cell_dN hcA.out | exact cell_dN (cell_dN hcA.out) | exact cell_dN (cell_dN (cell_dN hcA.out))) H2.out).mono ?_); rintro e w22 ⟨rfl, ⟨nd2, rfl⟩⟩) | (go_at_call 95; (with_reducible refine (insn_uses1.calls g2 (usesOr l1) 4 (a0_3 == 0) true _ (by first | exact hcA.out | exact cell_dN hcA.out | exact cell_dN (cell_dN hcA.out) | exact cell_dN (cell_dN (cell_dN hcA.out))) H3.out).mono ?_); rintro e w23 ⟨rfl, ⟨nd3, rfl⟩⟩) | (go_at_call 95; (with_reducible refine (insn_uses1.calls g2 (usesOr l1) 8 (a0_4 == 0) false _ (by first | exact hcA.out | exact cell_dN hcA.out | exact cell_dN (cell_dN hcA.out) | exact cell_dN (cell_dN (cell_dN hcA.out))) H4.out).mono ?_); rintro e w24 ⟨rfl, ⟨nd4, rfl⟩⟩))
            go_ret
            exact ⟨by rw [HV.out]; rfl, by repeat (first | (with_reducible first | exact HB.out | apply below_alloc | apply pw_below_drewN | apply below_drew1) | exact HB.out)⟩
          · have H4 := am hb4
            clear hq
            rcases c5 : decide (a0_1 < 11) with _ | _
            · have hv : usesB (usesOr l1) a0_1 a0_2 a0_3 a0_4 = false := by unfold usesB; rw [hb1, hb2, hb3, hb4, c5]; rfl
              have HV := am hv
              clear hv hb1 hb2 hb3 hb4
              go_wp2_with (first | (go_at_call 95; (with_reducible refine (insn_uses1.calls g2 (usesOr l1) 1 (a0_1 == 0) true _ (by first | exact hcA.out | exact cell_dN hcA.out | exact cell_dN (cell_dN hcA.out) | exact cell_dN (cell_dN (cell_dN hcA.out))) H1.out).mono ?_); rintro e w21 ⟨rfl, ⟨nd1, rfl⟩⟩) | (go_at_call 95; (with_reducible refine (insn_uses1.calls g2 (usesOr l1) 2 (a0_2 == 0) true _ (by first | exact hcA.out | exact cell_dN hcA.out | exact cell_dN (cell_dN hcA.out) | exact cell_dN (cell_dN (cell_dN hcA.out))) H2.out).mono ?_); rintro e w22 ⟨rfl, ⟨nd2, rfl⟩⟩) | (go_at_call 95; (with_reducible refine (insn_uses1.calls g2 (usesOr l1) 4 (a0_3 == 0) true _ (by first | exact hcA.out | exact cell_dN hcA.out | exact cell_dN (cell_dN hcA.out) | exact cell_dN (cell_dN (cell_dN hcA.out))) H3.out).mono ?_); rintro e w23 ⟨rfl, ⟨nd3, rfl⟩⟩) | (go_at_call 95; (with_reducible refine (insn_uses1.calls g2 (usesOr l1) 8 (a0_4 == 0) true _ (by first | exact hcA.out | exact cell_dN hcA.out | exact cell_dN (cell_dN hcA.out) | exact cell_dN (cell_dN (cell_dN hcA.out))) H4.out).mono ?_); rintro e w24 ⟨rfl, ⟨nd4, rfl⟩⟩))
              go_ret
              exact ⟨by rw [HV.out]; rfl, by repeat (first | (with_reducible first | exact HB.out | apply below_alloc | apply pw_below_drewN | apply below_drew1) | exact HB.out)⟩
            · rcases c6 : decide (a0_2 < 11) with _ | _
              · have hv : usesB (usesOr l1) a0_1 a0_2 a0_3 a0_4 = false := by unfold usesB; rw [hb1, hb2, hb3, hb4, c5, c6]; rfl
                have HV := am hv
                clear hv hb1 hb2 hb3 hb4
                go_wp2_with (first | (go_at_call 95; (with_reducible refine (insn_uses1.calls g2 (usesOr l1) 1 (a0_1 == 0) true _ (by first | exact hcA.out | exact cell_dN hcA.out | exact cell_dN (cell_dN hcA.out) | exact cell_dN (cell_dN (cell_dN hcA.out))) H1.out).mono ?_); rintro e w21 ⟨rfl, ⟨nd1, rfl⟩⟩) | (go_at_call 95; (with_reducible refine (insn_uses1.calls g2 (usesOr l1) 2 (a0_2 == 0) true _ (by first | exact hcA.out | exact cell_dN hcA.out | exact cell_dN (cell_dN hcA.out) | exact cell_dN (cell_dN (cell_dN hcA.out))) H2.out).mono ?_); rintro e w22 ⟨rfl, ⟨nd2, rfl⟩⟩) | (go_at_call 95; (with_reducible refine (insn_uses1.calls g2 (usesOr l1) 4 (a0_3 == 0) true _ (by first | exact hcA.out | exact cell_dN hcA.out | exact cell_dN (cell_dN hcA.out) | exact cell_dN (cell_dN (cell_dN hcA.out))) H3.out).mono ?_); rintro e w23 ⟨rfl, ⟨nd3, rfl⟩⟩) | (go_at_call 95; (with_reducible refine (insn_uses1.calls g2 (usesOr l1) 8 (a0_4 == 0) true _ (by first | exact hcA.out | exact cell_dN hcA.out | exact cell_dN (cell_dN hcA.out) | exact cell_dN (cell_dN (cell_dN hcA.out))) H4.out).mono ?_); rintro e w24 ⟨rfl, ⟨nd4, rfl⟩⟩))
                go_ret
                exact ⟨by rw [HV.out]; rfl, by repeat (first | (with_reducible first | exact HB.out | apply below_alloc | apply pw_below_drewN | apply below_drew1) | exact HB.out)⟩
              · have hv : usesB (usesOr l1) a0_1 a0_2 a0_3 a0_4 = true := by unfold usesB; rw [hb1, hb2, hb3, hb4, c5, c6]; rfl
                have HV := am hv
                clear hv hb1 hb2 hb3 hb4
                go_wp2_with (first | (go_at_call 95; (with_reducible refine (insn_uses1.calls g2 (usesOr l1) 1 (a0_1 == 0) true _ (by first | exact hcA.out | exact cell_dN hcA.out | exact cell_dN (cell_dN hcA.out) | exact cell_dN (cell_dN (cell_dN hcA.out))) H1.out).mono ?_); rintro e w21 ⟨rfl, ⟨nd1, rfl⟩⟩) | (go_at_call 95; (with_reducible refine (insn_uses1.calls g2 (usesOr l1) 2 (a0_2 == 0) true _ (by first | exact hcA.out | exact cell_dN hcA.out | exact cell_dN (cell_dN hcA.out) | exact cell_dN (cell_dN (cell_dN hcA.out))) H2.out).mono ?_); rintro e w22 ⟨rfl, ⟨nd2, rfl⟩⟩) | (go_at_call 95; (with_reducible refine (insn_uses1.calls g2 (usesOr l1) 4 (a0_3 == 0) true _ (by first | exact hcA.out | exact cell_dN hcA.out | exact cell_dN (cell_dN hcA.out) | exact cell_dN (cell_dN (cell_dN hcA.out))) H3.out).mono ?_); rintro e w23 ⟨rfl, ⟨nd3, rfl⟩⟩) | (go_at_call 95; (with_reducible refine (insn_uses1.calls g2 (usesOr l1) 8 (a0_4 == 0) true _ (by first | exact hcA.out | exact cell_dN hcA.out | exact cell_dN (cell_dN hcA.out) | exact cell_dN (cell_dN (cell_dN hcA.out))) H4.out).mono ?_); rintro e w24 ⟨rfl, ⟨nd4, rfl⟩⟩))
                go_ret
                exact ⟨by rw [HV.out]; rfl, by repeat (first | (with_reducible first | exact HB.out | apply below_alloc | apply pw_below_drewN | apply below_drew1) | exact HB.out)⟩
end Go.Proofs.Ytibghcmkmbamjaa.PI
