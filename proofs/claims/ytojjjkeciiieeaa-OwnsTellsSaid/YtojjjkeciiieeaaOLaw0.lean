/- owns' laws: has, numbers, heavy, the document's example. -/
import Derived.Test.YtojjjkeciiieeaaOEdge
namespace Go.Proofs.Ytojjjkeciiieeaa
open Go.RowKit
set_option linter.unusedVariables false
set_option linter.unusedSimpArgs false
set_option linter.unusedSectionVars false
set_option maxRecDepth 100000 in
theorem has19 (A : Option Addr) (c : Nat) (l : List Int) (x : Int) (w : World) (hA : RowsAt w A 1 (l.map encI)) (hl : l.length ≤ 100000) :
    Calls Try.prog 19 #[.slice A l.length c, .int .i64 x] w fun e w' => e = .returned (.bool (decide (x ∈ l))) ∧ w = w' := by
  go_enter Try.func19, Try.ntmps19
  go_wp2_with fail
  go_loopg [5] l.length (fun kq v5 w' => ∃ i : Nat, v5 = .int .i64 (i : Int) ∧ kq + i = l.length ∧ w = w' ∧ ∀ y ∈ l.take i, y ≠ x)
  case atStart => exact ⟨0, rfl, rfl, rfl, by simp⟩
  case round =>
    obtain ⟨i, rfl, hk, rfl, hn⟩ := hrel
    have HN : Unit → ∀ y ∈ l.take i, y ≠ x := fun _ => hn
    clear hn
    by_cases hi : i < l.length
    · have z1 : decide ((i : Int) < (l.length : Int)) = true := decide_eq_true (by omega)
      obtain ⟨y, hy⟩ : ∃ y, l[i]? = some y := ⟨_, List.getElem?_eq_getElem hi⟩
      obtain ⟨b, off, rfl, k0⟩ := one_cell hA hy
      have y3 : (0 : Int) ≤ (i : Int) := by omega
      have y4 : (i : Int) < (l.length : Int) := by omega
      by_cases e : y = x
      · have z2 : (y == x) = true := by simp [e]
        have HP : Unit → decide (x ∈ l) = true := fun _ => decide_eq_true (e ▸ List.mem_of_getElem? hy)
        clear e HN hy
        go_wp2_with fail
        go_ret
        exact ⟨by rw [HP ()]; rfl, rfl⟩
      · have z2 : (y == x) = false := by simp [e]
        have HN2 : Unit → ∀ z ∈ l.take (i + 1), z ≠ x := fun _ z hz => by
          rw [List.take_add_one, hy] at hz
          rcases List.mem_append.1 hz with h | h
          · exact HN () z h
          · simp at h; subst h; exact e
        clear e HN hy
        go_wp2_with fail
        go_roundg (gk - 1)
        case measure => omega
        case rel => exact ⟨i + 1, by go_num, by omega, rfl, HN2 ()⟩
    · have z1 : decide ((i : Int) < (l.length : Int)) = false := decide_eq_false (by omega)
      have HP : Unit → decide (x ∈ l) = false := fun _ => by
        have := HN ()
        rw [List.take_of_length_le (by omega)] at this
        exact decide_eq_false fun h => this x h rfl
      clear HN
      go_wp2_with fail
      go_ret
      exact ⟨by rw [HP ()]; rfl, rfl⟩
set_option maxRecDepth 100000 in
theorem numbers_same (A B : Option Addr) (ca cb : Nat) (l : List Int) (w : World) (hA : RowsAt w A 1 (l.map encI)) (hB : RowsAt w B 1 (l.map encI)) (hl : l.length ≤ 100000) :
    Calls Try.prog 12 #[.slice A l.length ca, .slice B l.length cb] w fun e w' => e = .returned (.bool true) ∧ Upd [] w w' := by
  have z0 : ((l.length : Int) != (l.length : Int)) = false := by simp
  go_enter Try.func12, Try.ntmps12
  go_wp2_with fail
  go_loopg [5] l.length (fun kq v5 w' => ∃ i : Nat, v5 = .int .i64 (i : Int) ∧ kq + i = l.length ∧ Upd [] w w')
  case atStart => exact ⟨0, rfl, rfl, Upd.refl _ _⟩
  case round =>
    obtain ⟨i, rfl, hk, hU⟩ := hrel
    by_cases hi : i < l.length
    · have z1 : decide ((i : Int) < (l.length : Int)) = true := decide_eq_true (by omega)
      obtain ⟨x, hx⟩ : ∃ x, l[i]? = some x := ⟨l[i], List.getElem?_eq_getElem hi⟩
      obtain ⟨b, off, rfl, k0⟩ := one_cell (hA.keep hU) hx
      obtain ⟨b', off', rfl, k1⟩ := one_cell (hB.keep hU) hx
      have y3 : (0 : Int) ≤ (i : Int) := by omega
      have y4 : (i : Int) < (l.length : Int) := by omega
      have y5 : (x != x) = false := by simp
      clear hx
      go_wp2_with fail
      go_quiet (fail)
      go_wp2_with fail
      go_roundg (gk - 1)
      case measure => omega
      case rel => exact ⟨i + 1, by go_num, by omega, hU.drewN _⟩
    · have z1 : decide ((i : Int) < (l.length : Int)) = false := decide_eq_false (by omega)
      go_wp2_with fail
      go_ret
      exact ⟨rfl, hU⟩
def heavyT (t : Tab) : Bool := decide (12 < t.length) || t.any fun ty => decide (12 < ty.fs.length)
theorem heavyT_fits {t : Tab} (h : heavyT t = false) : Fits t ∧ t.length ≤ 12 ∧ ∀ ty ∈ t, ty.fs.length ≤ 12 := by
  unfold heavyT at h
  simp at h
  exact ⟨⟨by omega, fun ty hty => by have := h.2 ty hty; omega⟩, by omega, fun ty hty => h.2 ty hty⟩
set_option maxRecDepth 100000 in
theorem heavy8 {t : Tab} {v : Value} {w : World} (hT : TabAt w v t) (hL : ∀ ty ∈ t, ty.fs.length ≤ maxLen) : Calls Try.prog 8 #[v] w fun e w' => e = .returned (.bool (heavyT t)) ∧ w = w' := by
  obtain ⟨A, c, rfl, hr⟩ := id hT
  by_cases c1 : 12 < t.length
  · have z1 : decide ((12 : Int) < (t.length : Int)) = true := decide_eq_true (by omega)
    have hv : Unit → heavyT t = true := fun _ => by simp [heavyT, c1]
    clear c1 hr
    go_enter Try.func8, Try.ntmps8
    go_wp2_with fail
    go_ret
    exact ⟨by rw [hv ()]; rfl, rfl⟩
  have z1 : decide ((12 : Int) < (t.length : Int)) = false := decide_eq_false (by omega)
  have hv : Unit → heavyT t = t.any (fun ty => decide (12 < ty.fs.length)) := fun _ => by simp [heavyT, c1]
  go_enter Try.func8, Try.ntmps8
  go_wp2_with fail
  go_loopg [3] t.length (fun kq v3 w' => ∃ i : Nat, v3 = .int .i64 (i : Int) ∧ kq + i = t.length ∧ w = w' ∧ ∀ ty ∈ t.take i, ¬ 12 < ty.fs.length)
  case atStart => exact ⟨0, rfl, rfl, rfl, by simp⟩
  case round =>
    obtain ⟨i, rfl, hk, rfl, hn⟩ := hrel
    have HN : Unit → ∀ ty ∈ t.take i, ¬ 12 < ty.fs.length := fun _ => hn
    clear hn
    by_cases hi : i < t.length
    · have z2 : decide ((i : Int) < (t.length : Int)) = true := decide_eq_true (by omega)
      obtain ⟨ty, hty⟩ : ∃ ty, t[i]? = some ty := ⟨_, List.getElem?_eq_getElem hi⟩
      obtain ⟨b, off, Af, cf, rfl, -, -, k2, -⟩ := hr i ty hty
      have hml := hL ty (List.mem_of_getElem? hty)
      have y3 : (0 : Int) ≤ (i : Int) := by omega
      have y4 : (i : Int) < (t.length : Int) := by omega
      unfold maxLen at hml
      by_cases e : 12 < ty.fs.length
      · have z3 : decide ((12 : Int) < (ty.fs.length : Int)) = true := decide_eq_true (by omega)
        have HP : Unit → heavyT t = true := fun _ => by
          rw [hv (), List.any_eq_true]
          exact ⟨ty, List.mem_of_getElem? hty, decide_eq_true e⟩
        clear e HN hty hr
        go_wp2_with fail
        go_ret
        exact ⟨by rw [HP ()]; rfl, rfl⟩
      · have z3 : decide ((12 : Int) < (ty.fs.length : Int)) = false := decide_eq_false (by omega)
        have HN2 : Unit → ∀ z ∈ t.take (i + 1), ¬ 12 < z.fs.length := fun _ z hz => by
          rw [List.take_add_one, hty] at hz
          rcases List.mem_append.1 hz with h | h
          · exact HN () z h
          · simp at h; subst h; exact e
        clear e HN hty
        go_wp2_with fail
        go_roundg (gk - 1)
        case measure => omega
        case rel => exact ⟨i + 1, by go_num, by omega, rfl, HN2 ()⟩
    · have z2 : decide ((i : Int) < (t.length : Int)) = false := decide_eq_false (by omega)
      have HP : Unit → heavyT t = false := fun _ => by
        have := HN ()
        rw [List.take_of_length_le (by omega)] at this
        rw [hv (), List.any_eq_false]
        intro ty hty
        simpa using this ty hty
      clear HN hr
      go_wp2_with fail
      go_ret
      exact ⟨by rw [HP ()]; rfl, rfl⟩
theorem chain_fits {n : Nat} {rd : Bool} {t : Tab} (h : ChainUpto n rd n t) (hn : n ≤ 100) : Fits t := by
  refine ⟨by rw [h.1]; omega, fun ty hty => ?_⟩
  obtain ⟨i, hi⟩ := List.mem_iff_getElem?.1 hty
  have hlt := (List.getElem?_eq_some_iff.1 hi).1
  obtain ⟨nm, h1⟩ := h.2 i (by rw [← h.1]; exact hlt)
  rw [h1] at hi
  cases hi
  show (chF n rd i).length ≤ 1000
  unfold chF
  split <;> simp
set_option maxRecDepth 100000 in
set_option maxHeartbeats 4000000 in
theorem works (w : World) : Calls Try.prog 9 #[] w fun e w' => e = .returned (.bool true) ∧ Upd [] w w' := by
  go_enter Try.func9, Try.ntmps9
  go_wp2_with fail
  refine (chain20 3 (by omega) false w).mono ?_
  rintro e w1 hd
  obtain ⟨v, rows, K, t, rfl, H, hO, hC⟩ := (Iff.of_eq (ChainDid.eq_1 ..)).1 hd
  have hT := hO.tabAt H
  have hF := chain_fits hC (by omega)
  have hE := chain_edge hC
  have hUp : Up 3 none := fun a b e => by cases e
  have U := H.u
  clear hd H hO hC
  go_wp2_with fail
  refine (check10 hT hF).mono ?_
  rintro e w2 hd
  obtain ⟨s, L, rfl, hN, hL⟩ := (Iff.of_eq (CheckDid.eq_1 ..)).1 hd
  obtain rfl := hE.self_no hUp hL
  obtain ⟨A1, c1, rfl, -⟩ := hN.look
  have hT2 := hT.keep hN.2
  have U2 := U.trans hN.2
  clear hd hN hL hT U
  go_wp2_with fail
  refine (chain20 3 (by omega) true w2).mono ?_
  rintro e w3 hd
  obtain ⟨v', rows, K, t', rfl, H, hO, hC⟩ := (Iff.of_eq (ChainDid.eq_1 ..)).1 hd
  have hT' := hO.tabAt H
  have hF' := chain_fits hC (by omega)
  have hE' := chain_round (by omega) hC
  have hT3 := hT2.keep H.u
  have U3 := U2.trans H.u
  clear hd H hO hC hT2 U2
  go_wp2_with fail
  refine (check10 hT' hF').mono ?_
  rintro e w4 hd
  obtain ⟨s, L, rfl, hN, hL⟩ := (Iff.of_eq (CheckDid.eq_1 ..)).1 hd
  obtain rfl : L = [0, 1, 2] := hE'.round_list (by omega) (by omega) (by omega) hL
  obtain ⟨A2, c2, rfl, -⟩ := hN.look
  have hT4 := hT3.keep hN.2
  have U4 := U3.trans hN.2
  clear hd hN hL hT3 U3 hT' hF' hE'
  go_wp2_with fail
  refine (reach15 hT4 hF 0).mono ?_
  rintro e w5 hd
  obtain ⟨s, l, rfl, hN, hL⟩ := (Iff.of_eq (ReachDid.eq_1 ..)).1 hd
  obtain rfl : l = [1, 2] := hL.1.eq (by simp [Rising]) fun k => by
    rw [hL.2]
    constructor
    · intro hr
      have h1 := hE.rch_lt hUp hr
      have h2 := hr.within (adj_within t)
      rw [hE.1] at h2
      have : k = 1 ∨ k = 2 := by omega
      simpa using this
    · intro hk
      have : k = 1 ∨ k = 2 := by simpa using hk
      exact hE.go (by omega) (by omega) (by omega)
  obtain ⟨A3, c3, rfl, hr3⟩ := hN.look
  have hT5 := hT4.keep hN.2
  have U5 := U4.trans hN.2
  clear hd hN hL hT4 U4
  go_wp2_with fail
  refine (holds13 hT5 hF 0).mono ?_
  rintro e w6 ⟨s, rfl, hN⟩
  have ha : adj t 0 = [1] := (adj_rising t 0).eq (by simp [Rising]) fun k => by
    rw [hE.2]
    constructor
    · rintro (⟨_, _, rfl⟩ | e)
      · simp
      · cases e
    · intro hk
      obtain rfl : k = 1 := by simpa using hk
      exact .inl ⟨by omega, by omega, rfl⟩
  rw [ha] at hN
  obtain ⟨A4, c4, rfl, hr4⟩ := hN.look
  have hT6 := hT5.keep hN.2
  have U6 := U5.trans hN.2
  have hr3' := hr3.keep hN.2
  clear hN hT5 U5 hr3
  go_wp2_with fail
  refine (depth17 hT6 hF 0).mono ?_
  rintro e w7 hd
  obtain ⟨d, rfl, hD, u7⟩ := (Iff.of_eq (DepthDid.eq_1 ..)).1 hd
  obtain rfl : d = 2 := hE.depth hUp hD
  have hT7 := hT6.keep u7
  have U7 := U6.trans u7
  have hr3 := hr3'.keep u7
  have hr4' := hr4.keep u7
  clear hd hD hT6 U6 u7 hr3' hr4
  go_wp2_with fail
  refine (depth17 hT7 hF 2).mono ?_
  rintro e w8 hd
  obtain ⟨d, rfl, hD, u7⟩ := (Iff.of_eq (DepthDid.eq_1 ..)).1 hd
  obtain rfl : d = 0 := hE.depth hUp hD
  have hT8 := hT7.keep u7
  have U8 := U7.trans u7
  have hr3' := hr3.keep u7
  have hr4 := hr4'.keep u7
  clear hd hD hT7 U7 u7 hr3 hr4'
  go_wp2_with fail
  refine (depth17 hT8 hF 3).mono ?_
  rintro e w9 hd
  obtain ⟨d, rfl, hD, u7⟩ := (Iff.of_eq (DepthDid.eq_1 ..)).1 hd
  obtain rfl : d = -1 := hE.depth hUp hD
  have U9 := U8.trans u7
  have hr3 := hr3'.keep u7
  have hr4' := hr4.keep u7
  clear hd hD hT8 U8 u7 hr3' hr4
  obtain ⟨b3, o3, rfl, k3⟩ := one_cell hr3 (i := 1) (x := 2) rfl
  obtain ⟨b4, o4, rfl, k4⟩ := one_cell hr4' (i := 0) (x := 1) rfl
  rw [Nat.add_zero] at k4
  go_wp2_with fail
  go_ret
  exact ⟨rfl, U9⟩
end Go.Proofs.Ytojjjkeciiieeaa
