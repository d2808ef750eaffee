/- owns: as the document's. -/
import Derived.Test.YtojjjkeciiieeaaORef6
namespace Go.Proofs.Ytojjjkeciiieeaa
open Go.RowKit
set_option linter.unusedVariables false
set_option linter.unusedSimpArgs false
set_option linter.unusedSectionVars false
theorem DepthIs.same {t : Tab} {i d e : Int} (h : DepthIs t i d) (g : DepthIs t i e) : d = e := by
  rcases h with ⟨h1, h2⟩ | ⟨h1, h2, h3⟩ | ⟨h1, h2, h3⟩ <;> rcases g with ⟨g1, g2⟩ | ⟨g1, g2, g3⟩ | ⟨g1, g2, g3⟩
  · omega
  · exact absurd g1 h1
  · exact absurd g1 h1
  · exact absurd h1 g1
  · omega
  · exact absurd g2 h2
  · exact absurd h1 g1
  · exact absurd h2 g2
  · omega
set_option maxRecDepth 100000 in
set_option maxHeartbeats 8000000 in
theorem tells_walk (A : Option Addr) (ca : Nat) (t : Tab) (i : Int) (w : World) (hT : TabAt w (.slice A t.length ca) t) (hL : ∀ ty ∈ t, ty.fs.length ≤ maxLen) :
    Calls Try.prog 3 #[.slice A t.length ca, .int .i64 i] w fun e w' => e = .returned (.bool true) ∧ Upd [] w w' := by
  by_cases c0 : heavyT t = true
  · go_enter Try.func3, Try.ntmps3
    go_wp2_with fail
    refine (heavy8 hT hL).mono ?_
    rintro e w1 ⟨rfl, rfl⟩
    rw [c0]
    go_wp2_with fail
    refine (works _).mono ?_
    rintro e w1 ⟨rfl, U⟩
    go_wp2_with fail
    go_ret
    exact ⟨rfl, U⟩
  replace c0 : heavyT t = false := by simpa using c0
  obtain ⟨hF, hl12, -⟩ := heavyT_fits c0
  go_enter Try.func3, Try.ntmps3
  go_wp2_with fail
  refine (heavy8 hT hL).mono ?_
  rintro e w1 ⟨rfl, rfl⟩
  rw [c0]
  clear c0
  go_wp2_with fail
  refine (check10 hT hF).mono ?_
  rintro e w1 hd
  obtain ⟨s, L, rfl, hN, hS⟩ := (Iff.of_eq (CheckDid.eq_1 ..)).1 hd
  obtain ⟨A1, c1, rfl, hr1⟩ := hN.look
  have U1 := hN.2
  have hLl := hS.len
  have hT1 := hT.keep hN.2
  obtain ⟨q, hq0⟩ : ∃ q : Int, q = if L = [] then (0 : Int) else 110 := ⟨_, rfl⟩
  rw [← hq0]
  have HQ : Unit → (if L = [] then (0 : Int) else 110) = q := fun _ => hq0.symm
  clear hd hN hT hq0
  go_wp2_with fail
  refine (rCheck11 hT1 hF).mono ?_
  rintro e w2 hd
  obtain ⟨s, L', rfl, hN, hS'⟩ := (Iff.of_eq (CheckDid.eq_1 ..)).1 hd
  obtain rfl : L = L' := hS.1.eq hS'.1 fun x => by rw [hS.2, hS'.2]
  obtain ⟨A2, c2, rfl, hr2⟩ := hN.look
  have U2 := U1.trans hN.2
  have hT2 := hT1.keep hN.2
  have hr1' := hr1.keep hN.2
  rw [HQ ()]
  have hq : (q == q) = true := by simp
  clear hd hN hT1 hS hS' hr1
  go_wp2_with fail
  refine (numbers_same A1 A2 c1 c2 L _ hr1' hr2 (by omega)).mono ?_
  rintro e w3 ⟨rfl, u3⟩
  have U3 := U2.trans u3
  have hT3 := hT2.keep u3
  clear hr1' hr2 hT2 hLl
  go_wp2_with fail
  refine (holds13 hT3 hF i).mono ?_
  rintro e w4 ⟨s, rfl, hN⟩
  obtain ⟨A3, c3, rfl, hr3⟩ := hN.look
  have U4 := U3.trans hN.2
  have hT4 := hT3.keep hN.2
  have hAl : (adj t i).length ≤ t.length := (adj_rising t i).bound fun x hx => adj_within t i x hx
  clear hN hT3
  go_wp2_with fail
  refine (rHolds14 hT4 hF i).mono ?_
  rintro e w5 ⟨s, rfl, hN⟩
  obtain ⟨A4, c4, rfl, hr4⟩ := hN.look
  have U5 := U4.trans hN.2
  have hT5 := hT4.keep hN.2
  have hr3' := hr3.keep hN.2
  clear hN hT4 hr3
  go_wp2_with fail
  refine (numbers_same A3 A4 c3 c4 (adj t i) _ hr3' hr4 (by omega)).mono ?_
  rintro e w6 ⟨rfl, u6⟩
  have U6 := U5.trans u6
  have hT6 := hT5.keep u6
  clear hr3' hr4 hT5
  go_wp2_with fail
  refine (reach15 hT6 hF i).mono ?_
  rintro e w7 hd
  obtain ⟨s, R, rfl, hN, hR⟩ := (Iff.of_eq (ReachDid.eq_1 ..)).1 hd
  obtain ⟨A5, c5, rfl, hr5⟩ := hN.look
  have U7 := U6.trans hN.2
  have hT7 := hT6.keep hN.2
  have hRl : R.length ≤ t.length := hR.1.bound fun k hk => ((hR.2 k).1 hk).within (adj_within t)
  clear hd hN hT6
  go_wp2_with fail
  refine (rReach16 hT7 hF i).mono ?_
  rintro e w8 hd
  obtain ⟨s, R', rfl, hN, hR'⟩ := (Iff.of_eq (ReachDid.eq_1 ..)).1 hd
  obtain rfl : R = R' := hR.1.eq hR'.1 fun x => by rw [hR.2, hR'.2]
  obtain ⟨A6, c6, rfl, hr6⟩ := hN.look
  have U8 := U7.trans hN.2
  have hT8 := hT7.keep hN.2
  have hr5' := hr5.keep hN.2
  clear hd hN hT7 hR hR' hr5
  go_wp2_with fail
  refine (numbers_same A5 A6 c5 c6 R _ hr5' hr6 (by omega)).mono ?_
  rintro e w9 ⟨rfl, u9⟩
  have U9 := U8.trans u9
  have hT9 := hT8.keep u9
  clear hr5' hr6 hT8
  go_wp2_with fail
  refine (depth17 hT9 hF i).mono ?_
  rintro e w10 hd
  obtain ⟨d, rfl, hD, u10⟩ := (Iff.of_eq (DepthDid.eq_1 ..)).1 hd
  have U10 := U9.trans u10
  have hT10 := hT9.keep u10
  clear hd hT9
  go_wp2_with fail
  refine (rDepth18 hT10 hF i).mono ?_
  rintro e w11 hd
  obtain ⟨d', rfl, hD', u11⟩ := (Iff.of_eq (DepthDid.eq_1 ..)).1 hd
  obtain rfl := hD.same hD'
  have hdd : (d == d) = true := by simp
  have U11 := U10.trans u11
  clear hd hD hD'
  go_wp2_with fail
  refine (works _).mono ?_
  rintro e w12 ⟨rfl, U12⟩
  go_wp2_with fail
  go_ret
  exact ⟨rfl, U11.trans U12⟩
end Go.Proofs.Ytojjjkeciiieeaa
