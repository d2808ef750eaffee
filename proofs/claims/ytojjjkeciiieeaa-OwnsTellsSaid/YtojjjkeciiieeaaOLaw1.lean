/- owns: a chain of choices. -/
import Derived.Test.YtojjjkeciiieeaaOLaw0
namespace Go.Proofs.Ytojjjkeciiieeaa
open Go.RowKit
set_option linter.unusedVariables false
set_option linter.unusedSimpArgs false
set_option linter.unusedSectionVars false
def BytesIn (w : World) (B : Option Addr) (ch : List UInt8) : Prop := ∀ i b, ch[i]? = some b → ∃ g off, B = some ⟨g, off, none⟩ ∧ w.cell? ⟨g, off + i, none⟩ = some (.int .u8 (b.toNat : Int))
theorem BytesIn.keep {w w' : World} {B : Option Addr} {ch : List UInt8} (h : BytesIn w B ch) (u : Upd [] w w') : BytesIn w' B ch := fun i b hi => by
  obtain ⟨g, off, e, hc⟩ := h i b hi
  exact ⟨g, off, e, u.cell hc (by simp)⟩
theorem self_none {t : Tab} {i : Int} (hi : 0 ≤ i ∧ i < (t.length : Int)) (h : ¬ Fine (adj t) i) {L : List Int} (hL : SelfUpto t t.length L) : L ≠ [] := by
  intro e
  subst e
  refine h ⟨fun hr => ?_, fun k hk hr => ?_⟩
  · exact absurd ((hL.2 i).2 ⟨hi, hr⟩) (by simp)
  · exact absurd ((hL.2 k).2 ⟨hk.within (adj_within t), hr⟩) (by simp)
theorem depthIs_fine {t : Tab} {i d : Int} (hi : 0 ≤ i ∧ i < (t.length : Int)) (h : Fine (adj t) i) (hd : DepthIs t i d) : d = (dp t i : Int) := by
  rcases hd with ⟨h1, _⟩ | ⟨_, h2, _⟩ | ⟨_, _, h3⟩
  · exact absurd hi h1
  · exact absurd h h2
  · exact h3
theorem depthIs_not {t : Tab} {i d : Int} (h : ¬ Fine (adj t) i) (hd : DepthIs t i d) : d = -1 := by
  rcases hd with ⟨_, e⟩ | ⟨_, _, e⟩ | ⟨_, h2, _⟩
  · exact e
  · exact e
  · exact absurd h2 h
theorem u8_bd {a : Int} (h : (Lit.int .u8 a).wf = true) : 0 ≤ a ∧ a ≤ 255 := by
  have : IntKind.u8.min ≤ a ∧ a ≤ IntKind.u8.max := by simpa [Lit.wf] using h
  exact this
theorem rem_at {a : Int} {n : Nat} (h0 : 0 ≤ a) (hn : 0 < n) : ∃ k : Nat, k < n ∧ a % (n : Int) = (k : Int) := by
  have h1 := Int.emod_nonneg a (show (n : Int) ≠ 0 by omega)
  have h2 := Int.emod_lt_of_pos a (show 0 < (n : Int) by omega)
  exact ⟨(a % (n : Int)).toNat, by omega, by omega⟩
set_option maxRecDepth 100000 in
set_option maxHeartbeats 8000000 in
theorem chains_walk (A B : Option Addr) (ca cb : Nat) (t : Tab) (a1 : Int) (ch : List UInt8) (w : World) (hT : TabAt w (.slice A t.length ca) t) (hL : ∀ ty ∈ t, ty.fs.length ≤ maxLen) (h1 : (Lit.int .u8 a1).wf = true) (hB : BytesIn w B ch) (hcl : ch.length ≤ maxLen) :
    Calls Try.prog 5 #[.slice A t.length ca, .int .u8 a1, .slice B ch.length cb] w fun e w' => e = .returned (.bool true) ∧ Upd [] w w' := by
  obtain ⟨h10, h11⟩ := u8_bd h1
  clear h1
  by_cases c0 : heavyT t = true
  · go_enter Try.func5, Try.ntmps5
    go_wp2_with fail
    refine (heavy8 hT hL).mono ?_
    rintro e w1 ⟨rfl, rfl⟩
    rw [c0]
    go_wp2_with fail
    refine (works _).mono ?_
    rintro e w1 ⟨rfl, U⟩
    go_wp2_with fail
    go_ret
    exact ⟨rfl, U⟩
  replace c0 : heavyT t = false := by simpa using c0
  obtain ⟨hF, hl12, -⟩ := heavyT_fits c0
  by_cases c1 : t.length = 0
  · have z1 : ((t.length : Int) == 0) = true := by simp [c1]
    clear c1 hl12
    go_enter Try.func5, Try.ntmps5
    go_wp2_with fail
    refine (heavy8 hT hL).mono ?_
    rintro e w1 ⟨rfl, rfl⟩
    rw [c0]
    go_wp2_with fail
    refine (works _).mono ?_
    rintro e w1 ⟨rfl, U⟩
    go_wp2_with fail
    go_ret
    exact ⟨rfl, U⟩
  have z1 : ((t.length : Int) == 0) = false := by simp; intro e; exact c1 (by simp [e])
  by_cases c2 : 200 < ch.length
  · have z2 : decide ((200 : Int) < (ch.length : Int)) = true := decide_eq_true (by omega)
    clear c1 hl12
    go_enter Try.func5, Try.ntmps5
    go_wp2_with fail
    refine (heavy8 hT hL).mono ?_
    rintro e w1 ⟨rfl, rfl⟩
    rw [c0]
    go_wp2_with fail
    refine (works _).mono ?_
    rintro e w1 ⟨rfl, U⟩
    go_wp2_with fail
    go_ret
    exact ⟨rfl, U⟩
  have z2 : decide ((200 : Int) < (ch.length : Int)) = false := decide_eq_false (by omega)
  obtain ⟨x0, hx0, hr0⟩ := rem_at h10 (show 0 < t.length by omega)
  have hp0 : (0 : Int) < (t.length : Int) := by omega
  have hp1 : (1 : Int) ≤ (t.length : Int) := by omega
  go_enter Try.func5, Try.ntmps5
  go_wp2_with fail
  refine (heavy8 hT hL).mono ?_
  rintro e w1 ⟨rfl, rfl⟩
  rw [c0]
  clear c0 c1
  go_wp2_with fail
  refine (depth17 hT hF _).mono ?_
  rintro e w1 hd
  obtain ⟨d, rfl, hD, U⟩ := (Iff.of_eq (DepthDid.eq_1 ..)).1 hd
  clear hd
  have hxr : (0 : Int) ≤ (x0 : Int) ∧ (x0 : Int) < (t.length : Int) := by omega
  by_cases hfi : Fine (adj t) (x0 : Int)
  · obtain rfl := depthIs_fine hxr hfi hD
    have g1 : decide ((0 : Int) ≤ (dp t x0 : Int)) = true := decide_eq_true (by omega)
    have hdb := dp_bd t x0
    go_wp2_with fail
    go_loopg [7, 9] ch.length (fun kq v7 v9 w' => ∃ (i : Nat) (x : Int), v7 = .int .i64 x ∧ v9 = .int .i64 (i : Int) ∧ kq + i = ch.length ∧ Upd [] w w' ∧ (0 ≤ x ∧ x < (t.length : Int)) ∧ Fine (adj t) x ∧ dp t x + i ≤ dp t x0)
    case atStart => exact ⟨0, (x0 : Int), rfl, rfl, rfl, U, hxr, hfi, by omega⟩
    case round =>
      obtain ⟨i, x, rfl, rfl, hk, U1, hxx, hff, hdd⟩ := hrel
      have hT1 := hT.keep U1
      by_cases hi : i < ch.length
      · have y1 : decide ((i : Int) < (ch.length : Int)) = true := decide_eq_true (by omega)
        obtain ⟨b, hb⟩ : ∃ b, ch[i]? = some b := ⟨_, List.getElem?_eq_getElem hi⟩
        go_wp2_with fail
        refine (holds13 hT1 hF x).mono ?_
        rintro e w2 ⟨s, rfl, hN⟩
        obtain ⟨A1, c1, rfl, hr1⟩ := hN.look
        have U2 := U1.trans hN.2
        clear hN
        by_cases he : (adj t x).length = 0
        · have z3 : (((adj t x).length : Int) == 0) = true := by simp [he]
          clear he
          go_wp2_with fail
          refine (check10 (hT.keep U2) hF).mono ?_
          rintro e w5 hd
          obtain ⟨s5, L, rfl, hN5, hL5⟩ := (Iff.of_eq (CheckDid.eq_1 ..)).1 hd
          clear hd
          generalize hq : (if L = [] then (0 : Int) else 110) = q5
          clear hq
          obtain ⟨A5, c5, rfl, -⟩ := hN5.look
          have U5 := U2.trans hN5.2
          clear hN5 hL5
          go_wp2_with fail
          refine (works _).mono ?_
          rintro e w6 ⟨rfl, U6⟩
          go_wp2_with fail
          go_ret
          exact ⟨rfl, U5.trans U6⟩
        · have z3 : (((adj t x).length : Int) == 0) = false := by simp; intro e; exact he (by simp [e])
          have hal := (adj_rising t x).bound (n := t.length) fun k hk => adj_within t x k hk
          obtain ⟨g, off, rfl, kb⟩ := (hB.keep U2) i b hb
          have hb0 : (0 : Int) ≤ (b.toNat : Int) := by omega
          have hb1 : (b.toNat : Int) ≤ 255 := by have := b.toNat_lt; omega
          obtain ⟨kk, hkk, hkr⟩ := rem_at hb0 (show 0 < (adj t x).length by omega)
          generalize (b.toNat : Int) = bI at kb hkr hb0 hb1
          obtain ⟨y, hy⟩ : ∃ y, (adj t x)[kk]? = some y := ⟨_, List.getElem?_eq_getElem hkk⟩
          obtain ⟨b1, o1, rfl, k1⟩ := one_cell hr1 hy
          have q0 : (0 : Int) < ((adj t x).length : Int) := by omega
          have q1 : (1 : Int) ≤ ((adj t x).length : Int) := by omega
          have q2 : (i : Int) < (ch.length : Int) := by omega
          have q3 : (kk : Int) < ((adj t x).length : Int) := by omega
          have hya := List.mem_of_getElem? hy
          have hlt := dp_lt hxx hff hya
          have hyr := adj_within t _ _ hya
          have hyf := hff.next hya
          have e1 : decide ((dp t x0 : Int) < (i : Int) + 1) = false := decide_eq_false (by omega)
          have e2 : decide ((dp t y : Int) < 0) = false := decide_eq_false (by omega)
          have e3 : decide ((dp t x0 : Int) - (i : Int) - 1 < (dp t y : Int)) = false := decide_eq_false (by omega)
          have hT2 := hT.keep U2
          clear he hb hy
          go_wp2_with fail
          refine (depth17 hT2 hF y).mono ?_
          rintro e w3 hd
          obtain ⟨d3, rfl, hD3, U3⟩ := (Iff.of_eq (DepthDid.eq_1 ..)).1 hd
          obtain rfl := depthIs_fine hyr hyf hD3
          have hT3 := hT2.keep U3
          clear hd hD3
          go_wp2_with fail
          refine (depth17 hT3 hF y).mono ?_
          rintro e w4 hd
          obtain ⟨d3, rfl, hD3, U4⟩ := (Iff.of_eq (DepthDid.eq_1 ..)).1 hd
          obtain rfl := depthIs_fine hyr hyf hD3
          clear hd hD3
          replace U2 := (U2.trans U3).trans U4
          go_wp2_with fail
          go_roundg (gk - 1)
          case measure => omega
          case rel => exact ⟨i + 1, y, rfl, by go_num, by omega, U2, hyr, hyf, by omega⟩
      · have y1 : decide ((i : Int) < (ch.length : Int)) = false := decide_eq_false (by omega)
        go_wp2_with fail
        refine (check10 (hT.keep U1) hF).mono ?_
        rintro e w5 hd
        obtain ⟨s5, L, rfl, hN5, hL5⟩ := (Iff.of_eq (CheckDid.eq_1 ..)).1 hd
        clear hd
        generalize hq : (if L = [] then (0 : Int) else 110) = q5
        clear hq
        obtain ⟨A5, c5, rfl, -⟩ := hN5.look
        have U5 := U1.trans hN5.2
        clear hN5 hL5
        go_wp2_with fail
        refine (works _).mono ?_
        rintro e w6 ⟨rfl, U6⟩
        go_wp2_with fail
        go_ret
        exact ⟨rfl, U5.trans U6⟩
  · obtain rfl := depthIs_not hfi hD
    go_wp2_with fail
    go_loopg [7, 9] ch.length (fun kq v7 v9 w' => ∃ (i : Nat) (x : Int), v7 = .int .i64 x ∧ v9 = .int .i64 (i : Int) ∧ kq + i = ch.length ∧ Upd [] w w')
    case atStart => exact ⟨0, (x0 : Int), rfl, rfl, rfl, U⟩
    case round =>
      obtain ⟨i, x, rfl, rfl, hk, U1⟩ := hrel
      have hT1 := hT.keep U1
      by_cases hi : i < ch.length
      · have y1 : decide ((i : Int) < (ch.length : Int)) = true := decide_eq_true (by omega)
        obtain ⟨b, hb⟩ : ∃ b, ch[i]? = some b := ⟨_, List.getElem?_eq_getElem hi⟩
        go_wp2_with fail
        refine (holds13 hT1 hF x).mono ?_
        rintro e w2 ⟨s, rfl, hN⟩
        obtain ⟨A1, c1, rfl, hr1⟩ := hN.look
        have U2 := U1.trans hN.2
        clear hN
        by_cases he : (adj t x).length = 0
        · have z3 : (((adj t x).length : Int) == 0) = true := by simp [he]
          clear he
          go_wp2_with fail
          refine (check10 (hT.keep U2) hF).mono ?_
          rintro e w5 hd
          obtain ⟨s5, L, rfl, hN5, hL5⟩ := (Iff.of_eq (CheckDid.eq_1 ..)).1 hd
          clear hd
          rw [if_neg (self_none hxr hfi hL5)]
          obtain ⟨A5, c5, rfl, -⟩ := hN5.look
          have U5 := U2.trans hN5.2
          clear hN5 hL5
          go_wp2_with fail
          refine (works _).mono ?_
          rintro e w6 ⟨rfl, U6⟩
          go_wp2_with fail
          go_ret
          exact ⟨rfl, U5.trans U6⟩
        · have z3 : (((adj t x).length : Int) == 0) = false := by simp; intro e; exact he (by simp [e])
          have hal := (adj_rising t x).bound (n := t.length) fun k hk => adj_within t x k hk
          obtain ⟨g, off, rfl, kb⟩ := (hB.keep U2) i b hb
          have hb0 : (0 : Int) ≤ (b.toNat : Int) := by omega
          have hb1 : (b.toNat : Int) ≤ 255 := by have := b.toNat_lt; omega
          obtain ⟨kk, hkk, hkr⟩ := rem_at hb0 (show 0 < (adj t x).length by omega)
          generalize (b.toNat : Int) = bI at kb hkr hb0 hb1
          obtain ⟨y, hy⟩ : ∃ y, (adj t x)[kk]? = some y := ⟨_, List.getElem?_eq_getElem hkk⟩
          obtain ⟨b1, o1, rfl, k1⟩ := one_cell hr1 hy
          have q0 : (0 : Int) < ((adj t x).length : Int) := by omega
          have q1 : (1 : Int) ≤ ((adj t x).length : Int) := by omega
          have q2 : (i : Int) < (ch.length : Int) := by omega
          have q3 : (kk : Int) < ((adj t x).length : Int) := by omega
          clear he hb hy
          go_wp2_with fail
          go_roundg (gk - 1)
          case measure => omega
          case rel => exact ⟨i + 1, y, rfl, by go_num, by omega, U2⟩
      · have y1 : decide ((i : Int) < (ch.length : Int)) = false := decide_eq_false (by omega)
        go_wp2_with fail
        refine (check10 (hT.keep U1) hF).mono ?_
        rintro e w5 hd
        obtain ⟨s5, L, rfl, hN5, hL5⟩ := (Iff.of_eq (CheckDid.eq_1 ..)).1 hd
        clear hd
        rw [if_neg (self_none hxr hfi hL5)]
        obtain ⟨A5, c5, rfl, -⟩ := hN5.look
        have U5 := U1.trans hN5.2
        clear hN5 hL5
        go_wp2_with fail
        refine (works _).mono ?_
        rintro e w6 ⟨rfl, U6⟩
        go_wp2_with fail
        go_ret
        exact ⟨rfl, U5.trans U6⟩
end Go.Proofs.Ytojjjkeciiieeaa
