/- HandleApart: the walk. -/
import Derived.Test.YtgleceijdedlkaaWorks13
import Derived.Test.YtgleceijdedlkaaLawLib
import Derived.Deep.DeepCutAuto
import Derived.Deep.LoopGhost
import Derived.Deep.CutBlock
import Derived.Deep.RegionWith
namespace Go.Proofs.Ytgleceijdedlkaa
open Go.RowKit
set_option linter.unusedVariables false
set_option linter.unusedSimpArgs false
/-- A step's cells. -/
def encStep (s : Bool × Int × Int) : List Value := [.bool s.1, .int .i64 s.2.1, .int .u64 s.2.2]
/-- But for one slot both are alike; of that one none lives in the second. -/
def Alike (o : Int) (L M : List (Int × Int)) (V W : List (Int × (Int × Int))) : Prop := aget W o = none ∧ ∀ s, s ≠ o → aget L s = aget M s ∧ aget V s = aget W s
theorem Alike.mk {o : Int} {L M : List (Int × Int)} {V W : List (Int × (Int × Int))} (h : Alike o L M V W) (h0 : 0 ≤ o) :
    mkH M W o = (o, genOf M o) ∧ Alike o L (mkL M W o) V (drV (mkV M W o) (mkH M W o).1 (mkH M W o).2) := by
  have hk : mkOk W o = true := by simp [mkOk, h0, h.1]
  have e1 : mkH M W o = (o, genOf M o) := by simp [mkH, hk]
  refine ⟨e1, ?_⟩
  rw [e1]
  simp only [mkL, mkV, hk, if_true, drV, aget_aput_self]
  refine ⟨by rw [aget_adel, if_pos rfl], fun s hs => ?_⟩
  rw [aget_aput_ne _ _ (Ne.symm hs), aget_adel, if_neg (Ne.symm hs), aget_aput_ne _ _ (Ne.symm hs)]
  exact h.2 s hs
theorem Alike.make {o s : Int} {L M : List (Int × Int)} {V W : List (Int × (Int × Int))} (h : Alike o L M V W) (hs : s ≠ o) :
    mkH L V s = mkH M W s ∧ mkE V s = mkE W s ∧ Alike o (mkL L V s) (mkL M W s) (mkV L V s) (mkV M W s) := by
  obtain ⟨e1, e2⟩ := h.2 s hs
  have eg : genOf L s = genOf M s := by simp [genOf, e1]
  have ek : mkOk V s = mkOk W s := by simp [mkOk, e2]
  refine ⟨by simp [mkH, eg, ek], by simp [mkE, e2], ?_⟩
  unfold mkL mkV
  rw [ek, eg]
  cases mkOk W s
  · exact h
  · refine ⟨by simp only [if_true]; rw [aget_aput_ne _ _ hs]; exact h.1, fun x hx => ?_⟩
    simp only [if_true, aget_aput]
    exact ⟨by rw [(h.2 x hx).1], by rw [(h.2 x hx).2]⟩
theorem Alike.drop {o s g : Int} {L M : List (Int × Int)} {V W : List (Int × (Int × Int))} (h : Alike o L M V W) (hs : s ≠ o) :
    drE V s g = drE W s g ∧ Alike o L M (drV V s g) (drV W s g) := by
  obtain ⟨e1, e2⟩ := h.2 s hs
  refine ⟨by simp [drE, e2], ?_⟩
  unfold drV
  rw [e2]
  split
  · refine ⟨by rw [aget_adel, if_neg hs]; exact h.1, fun x hx => ⟨(h.2 x hx).1, ?_⟩⟩
    rw [aget_adel, aget_adel, (h.2 x hx).2]
  · exact h
/-- Two tables apart from each other, and a block z of the caller's. -/
structure Two (w0 w : World) (z : Nat) (o : Obj) (ta la va tb lb vb : Nat) (LA : List (Int × Int)) (VA : List (Int × (Int × Int))) (LB : List (Int × Int)) (VB : List (Int × (Int × Int))) : Prop where
  a : TableAt w ta la va LA VA
  b : TableAt w tb lb vb LB VB
  u : Upd [] w0 w
  k : w.heap[z]? = some o
theorem Two.dropA {w0 w : World} {z : Nat} {o : Obj} {ta la va tb lb vb : Nat} {LA LB : List (Int × Int)} {VA VB : List (Int × (Int × Int))} (h : Two w0 w z o ta la va tb lb vb LA VA LB VB)
    (n : Nat) (d1 : va < n ∧ n ≤ tb ∧ n ≤ lb ∧ n ≤ vb ∧ w0.heap.size ≤ va ∧ va < z) (s g : Int) (hs : okI s) :
    Calls Try.prog 20 #[.pointer (some ⟨ta, 0, none⟩), .agg #[.int .i64 s, .int .u64 g]] w fun e w' => e = .returned (.int .i64 (drE VA s g)) ∧ Two w0 w' z o ta la va tb lb vb LA (drV VA s g) LB VB :=
  (Drop_sp w ta la va LA VA s g h.a hs).mono fun e w' ⟨he, h1, u1⟩ => ⟨he, h1, h.b.kept u1 (by simp; omega) (by simp; omega) (by simp; omega), h.u.step u1 (by simp; omega), u1.heap h.k (by simp; omega)⟩
theorem Two.dropB {w0 w : World} {z : Nat} {o : Obj} {ta la va tb lb vb : Nat} {LA LB : List (Int × Int)} {VA VB : List (Int × (Int × Int))} (h : Two w0 w z o ta la va tb lb vb LA VA LB VB)
    (n : Nat) (d1 : ta < n ∧ la < n ∧ va < n ∧ n ≤ vb ∧ w0.heap.size ≤ vb ∧ vb < z) (s g : Int) (hs : okI s) :
    Calls Try.prog 20 #[.pointer (some ⟨tb, 0, none⟩), .agg #[.int .i64 s, .int .u64 g]] w fun e w' => e = .returned (.int .i64 (drE VB s g)) ∧ Two w0 w' z o ta la va tb lb vb LA VA LB (drV VB s g) :=
  (Drop_sp w tb lb vb LB VB s g h.b hs).mono fun e w' ⟨he, h1, u1⟩ => ⟨he, h.a.kept u1 (by simp; omega) (by simp; omega) (by simp; omega), h1, h.u.step u1 (by simp; omega), u1.heap h.k (by simp; omega)⟩
theorem Two.makeA {w0 w : World} {z : Nat} {o : Obj} {ta la va tb lb vb : Nat} {LA LB : List (Int × Int)} {VA VB : List (Int × (Int × Int))} (h : Two w0 w z o ta la va tb lb vb LA VA LB VB)
    (n : Nat) (d1 : la < n ∧ va < n ∧ n ≤ tb ∧ n ≤ lb ∧ n ≤ vb ∧ w0.heap.size ≤ va ∧ w0.heap.size ≤ la ∧ va < z ∧ la < z) (s : Int) (hs : okI s) :
    Calls Try.prog 19 #[.pointer (some ⟨ta, 0, none⟩), .int .i64 s] w fun e w' => e = .returned (.tuple #[.agg #[.int .i64 (mkH LA VA s).1, .int .u64 (mkH LA VA s).2], .int .i64 (mkE VA s)]) ∧ Two w0 w' z o ta la va tb lb vb (mkL LA VA s) (mkV LA VA s) LB VB :=
  (Make_spec w ta la va LA VA s h.a hs).mono fun e w' ⟨he, h1, u1⟩ => ⟨he, h1, h.b.kept u1 (by simp; omega) (by simp; omega) (by simp; omega), h.u.step u1 (by simp; omega), u1.heap h.k (by simp; omega)⟩
theorem Two.makeB {w0 w : World} {z : Nat} {o : Obj} {ta la va tb lb vb : Nat} {LA LB : List (Int × Int)} {VA VB : List (Int × (Int × Int))} (h : Two w0 w z o ta la va tb lb vb LA VA LB VB)
    (n : Nat) (d1 : ta < n ∧ la < n ∧ va < n ∧ n ≤ lb ∧ n ≤ vb ∧ w0.heap.size ≤ vb ∧ w0.heap.size ≤ lb ∧ vb < z ∧ lb < z) (s : Int) (hs : okI s) :
    Calls Try.prog 19 #[.pointer (some ⟨tb, 0, none⟩), .int .i64 s] w fun e w' => e = .returned (.tuple #[.agg #[.int .i64 (mkH LB VB s).1, .int .u64 (mkH LB VB s).2], .int .i64 (mkE VB s)]) ∧ Two w0 w' z o ta la va tb lb vb LA VA (mkL LB VB s) (mkV LB VB s) :=
  (Make_spec w tb lb vb LB VB s h.b hs).mono fun e w' ⟨he, h1, u1⟩ => ⟨he, h.a.kept u1 (by simp; omega) (by simp; omega) (by simp; omega), h1, h.u.step u1 (by simp; omega), u1.heap h.k (by simp; omega)⟩
theorem Two.alloc {w0 w : World} {z : Nat} {o o' : Obj} {ta la va tb lb vb : Nat} {LA LB : List (Int × Int)} {VA VB : List (Int × (Int × Int))} (h : Two w0 w z o ta la va tb lb vb LA VA LB VB) : Two w0 (w.alloc o') z o ta la va tb lb vb LA VA LB VB :=
  ⟨h.a.alloc _, h.b.alloc _, h.u.alloc _, heap_alloc_old h.k _⟩
set_option maxRecDepth 100000 in
set_option maxHeartbeats 4000000 in
theorem apart_walk (A : Option Addr) (c : Nat) (l : List (Bool × Int × Int)) (other many : Int) (w : World) (hl : RowsAt w A 3 (l.map encStep)) (hs : ∀ s ∈ l, okI s.2.1) (ho : okI other) (hm : 0 ≤ many ∧ many < 256) :
    Calls Try.prog 3 #[.slice A l.length c, .int .i64 other, .int .u8 many] w fun e w' => e = .returned (.bool true) ∧ Upd [] w w' := by
  by_cases c1 : (200 : Int) < l.length ∨ other < 0
  · have z1 : (decide ((200 : Int) < l.length) || decide (other < 0)) = true := by simpa using c1
    by_cases c2 : (200 : Int) < l.length
    · have z2 : decide ((200 : Int) < l.length) = true := decide_eq_true c2
      go_enter Try.func3, Try.ntmps3
      go_wp2_with (go_at_call 17; (with_reducible refine (works13 _).mono ?_); rintro e w1 ⟨rfl, u1⟩)
      go_ret
      exact ⟨rfl, u1⟩
    · have z2 : decide ((200 : Int) < l.length) = false := decide_eq_false c2
      have z3 : decide (other < 0) = true := decide_eq_true (c1.resolve_left c2)
      go_enter Try.func3, Try.ntmps3
      go_wp2_with (go_at_call 17; (with_reducible refine (works13 _).mono ?_); rintro e w1 ⟨rfl, u1⟩)
      go_ret
      exact ⟨rfl, u1⟩
  · have z2 : decide ((200 : Int) < l.length) = false := decide_eq_false fun h => c1 (.inl h)
    have z3 : decide (other < 0) = false := decide_eq_false fun h => c1 (.inr h)
    have hl200 : l.length ≤ 200 := by omega
    clear c1
    go_enter Try.func3, Try.ntmps3
    go_wp2_with fail
    refine (New_spec _).mono ?_
    rintro e w1 ⟨ta, la, va, rfl, h1, u1, a1, a2, a3⟩
    obtain ⟨y1, y2, y3⟩ := h1.lts
    go_wp2_with fail
    refine (New_spec _).mono ?_
    rintro e w2 ⟨tb, lb, vb, rfl, h2, u2, b1, b2, b3⟩
    replace h1 := h1.kept u2 (by simp) (by simp) (by simp)
    have U2 := u1.trans u2
    have sz := u1.size
    clear u1 u2
    generalize hn : w1.heap.size = n1 at y1 y2 y3 b1 b2 b3 sz
    clear hn w1
    go_wp2_with fail
    go_loopg [9] l.length (fun kq v9 w' => ∃ (i : Nat) (LA LB : List (Int × Int)) (VA VB : List (Int × (Int × Int))), v9 = .int .i64 (i : Int) ∧ kq + i = l.length ∧ TableAt w' ta la va LA VA ∧ TableAt w' tb lb vb LB VB ∧ Alike other LA LB VA VB ∧ Upd [] w w')
    case atStart => exact ⟨0, [], [], [], [], rfl, rfl, h1, h2, ⟨rfl, fun _ _ => ⟨rfl, rfl⟩⟩, U2⟩
    case round =>
      clear h1 h2 U2
      obtain ⟨i, LA, LB, VA, VB, rfl, hk, hA, hB, hAl, hU⟩ := hrel
      by_cases hi : i < l.length
      · have z4 : decide ((i : Int) < (l.length : Int)) = true := decide_eq_true (by omega)
        obtain ⟨⟨d, s, g⟩, hx⟩ : ∃ x, l[i]? = some x := ⟨l[i], List.getElem?_eq_getElem hi⟩
        obtain ⟨b, off, rfl, hc⟩ := (hl.keep hU) i (encStep (d, s, g)) (by rw [List.getElem?_map, hx]; rfl)
        have k0 : wr.cell? ⟨b, off + i * 3, none⟩ = some (.bool d) := hc 0 _ rfl
        have k1 : wr.cell? ⟨b, off + i * 3 + 1, none⟩ = some (.int .i64 s) := hc 1 _ rfl
        have k2 : wr.cell? ⟨b, off + i * 3 + 2, none⟩ = some (.int .u64 g) := hc 2 _ rfl
        have hsk : okI s := hs _ (List.mem_of_getElem? hx)
        clear hc hx
        by_cases so : s = other
        · have z5 : (s == other) = true := by simpa using so
          go_wp2_with fail
          go_roundg (gk - 1)
          case measure => omega
          case rel => exact ⟨i + 1, LA, LB, VA, VB, by go_num, by omega, hA.alloc _, hB.alloc _, hAl, hU.alloc _⟩
        · have z5 : (s == other) = false := by simpa using so
          have hm4 : 0 ≤ many % 4 ∧ many % 4 < 4 := by omega
          go_wp2_with fail
          obtain ⟨wo, rfl⟩ : ∃ wo : World, wo = wr := ⟨_, rfl⟩
          obtain ⟨g0, rfl⟩ : ∃ g0 : Nat, g0 = gk := ⟨_, rfl⟩
          go_loopg [11] (many % 4).toNat (fun kq v11 w' => ∃ (k : Nat) (LB' : List (Int × Int)) (VB' : List (Int × (Int × Int))), v11 = .int .i64 (k : Int) ∧ (kq + k : Int) = many % 4 ∧ TableAt w' ta la va LA VA ∧ TableAt w' tb lb vb LB' VB' ∧ Alike other LA LB' VA VB' ∧ Upd [] w w' ∧ w'.heap[wo.heap.size]? = some (.cells #[.bool d, .int .i64 s, .int .u64 g] 28 (0, 0)))
          case atStart => exact ⟨0, LB, VB, rfl, by omega, hA.alloc _, hB.alloc _, hAl, hU.alloc _, heap_alloc_new _ _⟩
          case round =>
            obtain ⟨k, LB', VB', rfl, hkk, hA', hB', hAl', hU', hblk⟩ := hrel
            obtain ⟨o1, o2, o3⟩ := hB.lts
            obtain ⟨o4, o5, o6⟩ := hA.lts
            clear hA hB hAl hU k0 k1 k2
            by_cases hki : (k : Int) < many % 4
            · have z6 : decide ((k : Int) < many % 4) = true := decide_eq_true hki
              have h0 : 0 ≤ other := by have := of_decide_eq_false z3; omega
              obtain ⟨em, hAm⟩ := hAl'.mk h0
              go_wp2_with fail
              refine (Make_spec _ tb lb vb LB' VB' other hB' ho).mono ?_
              rintro e w4 ⟨rfl, h4, u4⟩
              rw [em] at hAm ⊢
              have hA4 := hA'.kept u4 (by simp; omega) (by simp; omega) (by simp; omega)
              have U4 := hU'.step u4 (by simp; omega)
              have B4 := u4.heap hblk (by simp; omega)
              clear u4 hA' hB' hU' hblk em hAl'
              go_wp2_with fail
              refine (Drop_sp _ tb lb vb _ _ other _ (h4.alloc _) ho).mono ?_
              rintro e w5 ⟨rfl, h5, u5⟩
              have hA5 := (hA4.alloc _).kept u5 (by simp; omega) (by simp; omega) (by simp; omega)
              have U5 := (U4.alloc _).step u5 (by simp; omega)
              have B5 := u5.heap (heap_alloc_old B4 _) (by simp; omega)
              clear u5 hA4 h4 U4 B4
              go_wp2_with fail
              go_roundg (gk - 1)
              case measure => omega
              case rel => exact ⟨k + 1, _, _, by go_num, by omega, hA5, h5, hAm, U5, B5⟩
            · have z6 : decide ((k : Int) < many % 4) = false := decide_eq_false hki
              have k0 : wr.cell? ⟨wo.heap.size, 0, none⟩ = some (.bool d) := cell_of hblk 0
              have k1 : wr.cell? ⟨wo.heap.size, 1, none⟩ = some (.int .i64 s) := cell_of hblk 1
              have k2 : wr.cell? ⟨wo.heap.size, 2, none⟩ = some (.int .u64 g) := cell_of hblk 2
              have k3 := lt_of_heap hblk
              cases d with
              | true =>
                obtain ⟨eD, hD⟩ := hAl'.drop (g := g) so
                go_wp2_with fail
                have st0 : Two w (wr.alloc (.cells #[.int .i64 s, .int .u64 g] 30)).drew wr.heap.size (.cells #[.int .i64 s, .int .u64 g] 30) ta la va tb lb vb LA VA LB' VB' := ⟨(hA'.alloc _).drew, (hB'.alloc _).drew, (hU'.alloc _).drew, heap_alloc_new wr _⟩
                go_region_with (first
                  | (go_at_call_of 20 ta; (first | refine (stB.dropA n1 (by omega) s g hsk).mono ?_ | refine (st0.dropA n1 (by omega) s g hsk).mono ?_); rintro e wA ⟨rfl, stA⟩; have q0 := cell_of stA.k 0; have q1 := cell_of stA.k 1; simp only [List.getElem?_toArray, List.getElem?_cons_zero, List.getElem?_cons_succ] at q0 q1)
                  | (go_at_call_of 20 tb; (first | refine (stA.dropB n1 (by omega) s g hsk).mono ?_ | refine (st0.dropB n1 (by omega) s g hsk).mono ?_); rintro e wB ⟨rfl, stB⟩; have q0 := cell_of stB.k 0; have q1 := cell_of stB.k 1; simp only [List.getElem?_toArray, List.getElem?_cons_zero, List.getElem?_cons_succ] at q0 q1))
                all_goals go_wp2_with fail
                all_goals
                  go_roundg (g0 - 1)
                  case measure => omega
                  case rel => first | exact ⟨i + 1, _, _, _, _, by go_num, by omega, stB.a, stB.b, hD, stB.u⟩ | exact ⟨i + 1, _, _, _, _, by go_num, by omega, stA.a, stA.b, hD, stA.u⟩
              | false =>
                obtain ⟨eM, eE, hM⟩ := hAl'.make so
                have st0 : Two w (wr.alloc (.cells #[.int .i64 s, .int .u64 g] 30)) wo.heap.size (.cells #[.bool false, .int .i64 s, .int .u64 g] 28) ta la va tb lb vb LA VA LB' VB' := ⟨hA'.alloc _, hB'.alloc _, hU'.alloc _, heap_alloc_old hblk _⟩
                go_wp2_with fail
                refine (st0.makeA n1 (by omega) s hsk).mono ?_
                rintro e wA ⟨rfl, stA⟩
                have k4 := lt_of_heap stA.k
                have q0 := cell_of stA.k 0
                have q1 := cell_of stA.k 1
                have q2 := cell_of stA.k 2
                simp only [List.getElem?_toArray, List.getElem?_cons_zero, List.getElem?_cons_succ] at q0 q1 q2
                clear st0 hA' hB' hU' hAl'
                go_wp2_with fail
                have st1 : Two w (wA.alloc (.cells #[.int .i64 (mkH LA VA s).1, .int .u64 (mkH LA VA s).2] 30)) wA.heap.size (.cells #[.int .i64 (mkH LA VA s).1, .int .u64 (mkH LA VA s).2] 30) ta la va tb lb vb _ _ LB' VB' := ⟨stA.a.alloc _, stA.b.alloc _, stA.u.alloc _, heap_alloc_new _ _⟩
                have st1' := st1
                rw [eM] at st1'
                refine (st1'.makeB n1 (by omega) s hsk).mono ?_
                rintro e wB ⟨rfl, stB⟩
                have k5 := lt_of_heap stB.k
                have r0 := cell_of stB.k 0
                have r1 := cell_of stB.k 1
                simp only [List.getElem?_toArray, List.getElem?_cons_zero, List.getElem?_cons_succ] at r0 r1
                clear st1 st1' stA
                go_wp2_with fail
                go_roundg (g0 - 1)
                case measure => omega
                case rel => exact ⟨i + 1, _, _, _, _, by go_num, by omega, stB.a.alloc _, stB.b.alloc _, hM, stB.u.alloc _⟩
      · have z4 : decide ((i : Int) < (l.length : Int)) = false := decide_eq_false (by omega)
        go_wp2_with (go_at_call 17; (with_reducible refine (works13 _).mono ?_); rintro e w3 ⟨rfl, u3⟩)
        go_ret
        exact ⟨rfl, hU.trans u3⟩
end Go.Proofs.Ytgleceijdedlkaa
