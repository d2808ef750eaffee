/- owns: the document's self, Reach, Check. -/
import Derived.Test.YtojjjkeciiieeaaORef3
namespace Go.Proofs.Ytojjjkeciiieeaa
open Go.RowKit
set_option linter.unusedVariables false
set_option linter.unusedSimpArgs false
set_option linter.unusedSectionVars false
set_option maxRecDepth 100000 in
set_option maxHeartbeats 4000000 in
theorem rself22 {t : Tab} {v : Value} {w : World} (hT : TabAt w v t) (hF : Fits t) (i : Int) (hi : 0 ≤ i ∧ i < (t.length : Int)) :
    Calls Try.prog 22 #[v, .int .i64 i] w fun e w' => ∃ b, e = .returned (.bool b) ∧ (b = true ↔ Rch (adj t) i i) ∧ Upd [] w w' := by
  obtain ⟨k, rfl⟩ : ∃ k : Nat, i = k := ⟨i.toNat, by omega⟩
  have hkl : k < t.length := by omega
  have y1 : (0 : Int) ≤ (k : Int) := by omega
  have y2 : (k : Int) < (t.length : Int) := hi.2
  go_enter Try.func22, Try.ntmps22
  go_wp2_with fail
  refine (rreach28 hT hF (k : Int) hi).mono ?_
  rintro e w1 hd
  obtain ⟨s, B, rfl, H, hBl, hD⟩ := (Iff.of_eq (RefReachDid.eq_1 ..)).1 hd
  obtain ⟨A9, c9, rfl, hr9, -⟩ := H.parts
  obtain ⟨b, hb⟩ : ∃ b, B[k]? = some b := ⟨_, List.getElem?_eq_getElem (by omega)⟩
  obtain ⟨g, off, rfl, hc9⟩ := hr9 k (encB b) (by rw [List.getElem?_map, hb]; rfl)
  have kB := hc9 0 _ rfl
  simp only [Nat.add_zero, Nat.mul_one] at kB
  rw [List.length_map, hBl]
  have hiff : Unit → (b = true ↔ Rch (adj t) (k : Int) (k : Int)) := fun _ => by
    rw [← hD k hkl, hb]; simp
  have U := H.u
  clear hd hr9 hc9 hb hi
  go_wp2_with fail
  go_ret
  exact ⟨b, rfl, hiff (), U⟩
theorem rch_cases' {f : Int → List Int} {i y : Int} (h : Rch f i y) : y ∈ f i ∨ ∃ k ∈ f i, Rch f k y := by
  cases h with
  | one h => exact .inl h
  | step h g => exact .inr ⟨_, h, g⟩
def rowed (B : List Bool) (n : Nat) : List Int := ((List.range n).filter fun k => B[k]? == some true).map fun k : Nat => (k : Int)
theorem rowed_snoc (B : List Bool) (n : Nat) {b : Bool} (hb : B[n]? = some b) : rowed B (n + 1) = rowed B n ++ (if b = true then [(n : Int)] else []) := by
  unfold rowed
  rw [List.range_succ, List.filter_append, List.map_append]
  congr 1
  cases b <;> simp [hb]
theorem rowed_len (B : List Bool) (n : Nat) : (rowed B n).length ≤ n := by
  unfold rowed
  rw [List.length_map]
  exact Nat.le_trans (List.length_filter_le _ _) (by simp)
theorem rowed_reach {t : Tab} {i : Int} {B : List Bool} (hD : DoneB t i B) : ReachL t i (rowed B t.length) := by
  refine ⟨?_, fun k => ?_⟩
  · unfold rowed Rising
    rw [List.pairwise_map]
    exact (List.pairwise_lt_range.filter _).imp fun h => by omega
  · unfold rowed
    rw [List.mem_map]
    constructor
    · rintro ⟨x, hx, rfl⟩
      rw [List.mem_filter, List.mem_range] at hx
      exact (hD x hx.1).1 (by simpa using hx.2)
    · intro hr
      have h1 := hr.within (adj_within t)
      refine ⟨k.toNat, ?_, by omega⟩
      rw [List.mem_filter, List.mem_range]
      refine ⟨by omega, ?_⟩
      have := (hD k.toNat (by omega)).2 (by rw [Int.toNat_of_nonneg h1.1]; exact hr)
      simp [this]
set_option maxRecDepth 100000 in
set_option maxHeartbeats 4000000 in
theorem rReach16 {t : Tab} {v : Value} {w : World} (hT : TabAt w v t) (hF : Fits t) (i : Int) :
    Calls Try.prog 16 #[v, .int .i64 i] w (ReachDid t i w) := by
  obtain ⟨A, c, rfl, -⟩ := id hT
  have htl := hF.1
  by_cases hi : 0 ≤ i ∧ i < (t.length : Int)
  · have y1 : decide (i < 0) = false := decide_eq_false (by omega)
    have y2 : decide ((t.length : Int) ≤ i) = false := decide_eq_false (by omega)
    obtain ⟨i0, hi0, hz0, hz1, hz2⟩ := info_parts info3
    go_enter Try.func16, Try.ntmps16
    go_wp2_with fail
    refine (rreach28 hT hF i hi).mono ?_
    rintro e w1 hd
    obtain ⟨s, B, rfl, H, hBl, hD⟩ := (Iff.of_eq (RefReachDid.eq_1 ..)).1 hd
    obtain ⟨A9, c9, rfl, hr9, -⟩ := H.parts
    rw [List.length_map, hBl]
    have H0 := H.row0 3 1
    have hRL := rowed_reach hD
    clear hd hD hi
    go_wp2_with fail
    go_loopg [5, 7] t.length (fun kq v5 v7 w' => ∃ n : Nat, v7 = .int .i64 (n : Int) ∧ kq + n = t.length ∧ SepK w w' [] (star (rowR 3 1 v5 ((rowed B n).map encI)) (star (rowR 4 1 (.slice A9 (B.map encB).length c9) (B.map encB)) emp)))
    case atStart => exact ⟨0, rfl, rfl, H0⟩
    case round =>
      clear H0 H
      obtain ⟨n, rfl, hk, H⟩ := hrel
      have hrl := rowed_len B n
      by_cases hn : n < t.length
      · have z1 : decide ((n : Int) < (t.length : Int)) = true := decide_eq_true (by omega)
        obtain ⟨b, hb⟩ : ∃ b, B[n]? = some b := ⟨_, List.getElem?_eq_getElem (by omega)⟩
        obtain ⟨A8, c8, e8, hr8, -⟩ := H.swap.parts
        simp only [Value.slice.injEq, true_and] at e8
        obtain ⟨rfl, rfl⟩ := e8
        obtain ⟨g, off, rfl, hc9⟩ := hr8 n (encB b) (by rw [List.getElem?_map, hb]; rfl)
        have kB := hc9 0 _ rfl
        simp only [Nat.add_zero, Nat.mul_one] at kB
        have y3 : (0 : Int) ≤ (n : Int) := by omega
        have y4 : (n : Int) < (t.length : Int) := by omega
        have hs : Unit → rowed B (n + 1) = rowed B n ++ (if b = true then [(n : Int)] else []) := fun _ => rowed_snoc B n hb
        clear hr8 hc9 hb
        cases b with
        | true =>
          have hs2 : Unit → rowed B (n + 1) = rowed B n ++ [(n : Int)] := fun _ => by rw [hs ()]; rfl
          clear hs
          have H2 := H.alloc (.cells #[.int .i64 (n : Int)] 3)
          go_wp2_with (at_builtin; refine wl_append rfl _ _ 25 rfl 3 i0 _ 1 8 Try.underlying25 hi0 hz0 hz1 hz2 rfl (by decide) _ ((rowed B n).map encI) rfl H2 ⟨wr.heap.size, 0, none⟩ 1 (encI (n : Int)) rfl rfl (cell_one_new wr _ 3) (fun u hu => by simp [encI] at hu; subst hu; rfl) (by rw [List.length_map]; unfold maxLen; omega) (by rw [List.length_map]; omega) ?_; intro v3 w3 H3)
          go_roundg (gk - 1)
          case measure => omega
          case rel => exact ⟨n + 1, by go_num, by omega, by rw [hs2 (), List.map_append]; exact H3.drop [] (fun p hp => by cases hp)⟩
        | false =>
          have hs2 : Unit → rowed B (n + 1) = rowed B n := fun _ => by rw [hs ()]; simp
          clear hs
          go_wp2_with fail
          go_roundg (gk - 1)
          case measure => omega
          case rel => exact ⟨n + 1, by go_num, by omega, by rw [hs2 ()]; exact H⟩
      · have z1 : decide ((n : Int) < (t.length : Int)) = false := decide_eq_false (by omega)
        obtain rfl : n = t.length := by omega
        go_wp2_with fail
        go_ret
        exact (Iff.of_eq (ReachDid.eq_1 ..)).2 ⟨_, _, rfl, NewI.of H, hRL⟩
  · have hem : ReachL t i [] := ⟨List.Pairwise.nil, fun k => ⟨fun h => (by cases h), fun h => by
      exfalso
      rcases rch_cases' h with h1 | ⟨x, h1, _⟩ <;> rw [adj_out hi] at h1 <;> cases h1⟩⟩
    have H0 := (SepK.start w).row0 3 1
    go_enter Try.func16, Try.ntmps16
    by_cases h0 : i < 0
    · have y1 : decide (i < 0) = true := decide_eq_true h0
      go_wp2_with fail
      go_ret
      exact (Iff.of_eq (ReachDid.eq_1 ..)).2 ⟨_, [], rfl, NewI.of H0, hem⟩
    · have y1 : decide (i < 0) = false := decide_eq_false h0
      have y2 : decide ((t.length : Int) ≤ i) = true := decide_eq_true (by omega)
      go_wp2_with fail
      go_ret
      exact (Iff.of_eq (ReachDid.eq_1 ..)).2 ⟨_, [], rfl, NewI.of H0, hem⟩
end Go.Proofs.Ytojjjkeciiieeaa
