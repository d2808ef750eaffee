/- owns: Check, Reach. -/
import Derived.Test.YtojjjkeciiieeaaOReach
import Derived.Maps.RangeWalk
import Derived.Maps.Keyed
namespace Go.Proofs.Ytojjjkeciiieeaa
open Go.RowKit Go.Maps
set_option linter.unusedVariables false
set_option linter.unusedSimpArgs false
set_option linter.unusedSectionVars false
/-- Who owns itself, of the first n. -/
def SelfUpto (t : Tab) (n : Nat) (l : List Int) : Prop := Rising l ∧ ∀ k, k ∈ l ↔ (0 ≤ k ∧ k < (n : Int)) ∧ Rch (adj t) k k
theorem SelfUpto.start (t : Tab) : SelfUpto t 0 [] := ⟨List.Pairwise.nil, fun k => ⟨fun h => (by cases h), fun h => by omega⟩⟩
theorem SelfUpto.no {t : Tab} {n : Nat} {l : List Int} (h : SelfUpto t n l) (hn : ¬ Rch (adj t) (n : Int) (n : Int)) : SelfUpto t (n + 1) l := by
  refine ⟨h.1, fun k => ?_⟩
  rw [h.2]
  constructor
  · rintro ⟨a, b⟩; exact ⟨by omega, b⟩
  · rintro ⟨a, b⟩
    refine ⟨?_, b⟩
    by_cases e : k = (n : Int)
    · subst e; exact absurd b hn
    · omega
theorem SelfUpto.yes {t : Tab} {n : Nat} {l : List Int} (h : SelfUpto t n l) (hn : Rch (adj t) (n : Int) (n : Int)) : SelfUpto t (n + 1) (l ++ [(n : Int)]) := by
  refine ⟨?_, fun k => ?_⟩
  · refine List.pairwise_append.2 ⟨h.1, List.pairwise_singleton _ _, fun a ha b hb => ?_⟩
    obtain rfl := List.mem_singleton.1 hb
    exact ((h.2 a).1 ha).1.2
  · rw [List.mem_append, List.mem_singleton, h.2]
    constructor
    · rintro (⟨a, b⟩ | rfl)
      · exact ⟨by omega, b⟩
      · exact ⟨by omega, hn⟩
    · rintro ⟨a, b⟩
      by_cases e : k = (n : Int)
      · exact .inr e
      · exact .inl ⟨by omega, b⟩
theorem SelfUpto.len {t : Tab} {n : Nat} {l : List Int} (h : SelfUpto t n l) : l.length ≤ n := h.1.bound fun x hx => ((h.2 x).1 hx).1
def CheckDid (t : Tab) (w : World) (e : Ending) (w' : World) : Prop := ∃ s l, e = .returned (.tuple #[s, .int .i64 (if l = [] then 0 else 110)]) ∧ NewI w w' s l ∧ SelfUpto t t.length l
set_option maxRecDepth 100000 in
set_option maxHeartbeats 4000000 in
theorem check10 {t : Tab} {v : Value} {w : World} (hT : TabAt w v t) (hF : Fits t) : Calls Try.prog 10 #[v] w (CheckDid t w) := by
  obtain ⟨A, c, rfl, -⟩ := id hT
  have htl := hF.1
  obtain ⟨i0, hi0, hz0, hz1, hz2⟩ := info_parts info3
  have H0 := (SepK.start w).row0 3 1
  go_enter Try.func10, Try.ntmps10
  go_wp2_with fail
  go_loopg [2, 7] t.length (fun kq v2 v7 w' => ∃ (j : Nat) (l : List Int), v7 = .int .i64 (j : Int) ∧ kq + j = t.length ∧ SepK w w' [] (star (rowR 3 1 v2 (l.map encI)) emp) ∧ SelfUpto t j l)
  case atStart => exact ⟨0, [], rfl, rfl, H0, SelfUpto.start t⟩
  case round =>
    clear H0
    obtain ⟨j, l, rfl, hk, H, hS⟩ := hrel
    by_cases hj : j < t.length
    · have z1 : decide ((j : Int) < (t.length : Int)) = true := decide_eq_true (by omega)
      have hll := hS.len
      go_wp2_with fail
      refine (reach21 (hT.keep H.u) hF (j : Int)).mono ?_
      rintro e w1 ⟨mb, S, rfl, HS, hR⟩
      have H1 := H.upd HS.u
      have hjo : okI (j : Int) := WalkArith.wf_i64 (by omega)
      have r1 := seen_look HS (j : Int) hjo
      clear H HS
      by_cases hm : (j : Int) ∈ S
      · rw [decide_eq_true hm] at r1
        have hS2 := hS.yes ((hR.2 _).1 hm)
        have H2 := H1.alloc (.cells #[.int .i64 (j : Int)] 3)
        clear hm hS hR
        go_wp2_with (at_builtin; refine wl_append rfl _ _ 25 rfl 3 i0 (.int .i64 0) 1 8 Try.underlying25 hi0 hz0 hz1 hz2 rfl (by decide) _ _ rfl H2 ⟨w1.heap.size, 0, none⟩ 1 [.int .i64 (j : Int)] rfl rfl (cell_one_new _ _ _) (fun u hu => by simp at hu; subst hu; rfl) (by unfold maxLen; simp; omega) (by simp; omega) ?_; intro v' w5 H3)
        go_roundg (gk - 1)
        case measure => omega
        case rel => exact ⟨j + 1, _, by go_num, by omega, by rw [List.map_append]; exact H3.drop [] (fun p hp => by cases hp), hS2⟩
      · rw [decide_eq_false hm] at r1
        have hS2 := hS.no fun h => hm ((hR.2 _).2 h)
        clear hm hS hR
        go_wp2_with fail
        go_roundg (gk - 1)
        case measure => omega
        case rel => exact ⟨j + 1, l, by go_num, by omega, H1, hS2⟩
    · have z1 : decide ((j : Int) < (t.length : Int)) = false := decide_eq_false (by omega)
      obtain rfl : j = t.length := by omega
      obtain ⟨A2, c2, rfl, -⟩ := H.row
      rw [List.length_map] at H ⊢
      by_cases hl : l = []
      · subst hl
        have HC : Unit → SelfUpto t t.length [] := fun _ => hS
        clear hS
        go_wp2_with fail
        go_ret2
        exact (Iff.of_eq (CheckDid.eq_1 ..)).2 ⟨_, [], rfl, ⟨rowR_nil _ _ _ _, H.u⟩, HC ()⟩
      · have hlp : 0 < l.length := List.length_pos_iff.2 hl
        have z2 : decide (0 < l.length) = true := decide_eq_true hlp
        have HC : Unit → SelfUpto t t.length l := fun _ => hS
        have HL : Unit → (if l = [] then 0 else 110 : Int) = 110 := fun _ => if_neg hl
        clear hS hl
        go_wp2_with fail
        go_ret2
        exact (Iff.of_eq (CheckDid.eq_1 ..)).2 ⟨_, l, by rw [HL ()]; rfl, NewI.of H, HC ()⟩
end Go.Proofs.Ytojjjkeciiieeaa
