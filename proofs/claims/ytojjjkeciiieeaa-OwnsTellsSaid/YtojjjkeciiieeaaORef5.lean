/- owns: the document's Check. -/
import Derived.Test.YtojjjkeciiieeaaORef4
namespace Go.Proofs.Ytojjjkeciiieeaa
open Go.RowKit
set_option linter.unusedVariables false
set_option linter.unusedSimpArgs false
set_option linter.unusedSectionVars false
set_option maxRecDepth 100000 in
set_option maxHeartbeats 4000000 in
theorem rCheck11 {t : Tab} {v : Value} {w : World} (hT : TabAt w v t) (hF : Fits t) : Calls Try.prog 11 #[v] w (CheckDid t w) := by
  obtain ⟨A, c, rfl, -⟩ := id hT
  have htl := hF.1
  have H0 := (SepK.start w).row0 3 1
  obtain ⟨i0, hi0, hz0, hz1, hz2⟩ := info_parts info3
  go_enter Try.func11, Try.ntmps11
  go_wp2_with fail
  go_loopg [4, 5] t.length (fun kq v4 v5 w' => ∃ (n : Nat) (L : List Int), v5 = .int .i64 (n : Int) ∧ kq + n = t.length ∧ SepK w w' [] (star (rowR 3 1 v4 (L.map encI)) emp) ∧ SelfUpto t n L)
  case atStart => exact ⟨0, [], rfl, rfl, H0, SelfUpto.start t⟩
  case round =>
    clear H0
    obtain ⟨n, L, rfl, hk, H, hS⟩ := hrel
    have hLl := hS.len
    by_cases hn : n < t.length
    · have z1 : decide ((n : Int) < (t.length : Int)) = true := decide_eq_true (by omega)
      have hir : (0 : Int) ≤ (n : Int) ∧ (n : Int) < (t.length : Int) := by omega
      go_wp2_with fail
      refine (rself22 (hT.keep H.u) hF (n : Int) hir).mono ?_
      rintro e w2 ⟨b, rfl, hb, u2⟩
      have H1 := H.upd u2
      cases b with
      | true =>
        have hS2 := hS.yes (hb.1 rfl)
        clear hb hir
        have H2 := H1.alloc (.cells #[.int .i64 (n : Int)] 3)
        go_wp2_with (at_builtin; refine wl_append rfl _ _ 25 rfl 3 i0 _ 1 8 Try.underlying25 hi0 hz0 hz1 hz2 rfl (by decide) _ (L.map encI) rfl H2 ⟨w2.heap.size, 0, none⟩ 1 (encI (n : Int)) rfl rfl (cell_one_new w2 _ 3) (fun u hu => by simp [encI] at hu; subst hu; rfl) (by rw [List.length_map]; unfold maxLen; omega) (by rw [List.length_map]; omega) ?_; intro v3 w3 H3)
        go_roundg (gk - 1)
        case measure => omega
        case rel => exact ⟨n + 1, L ++ [(n : Int)], by go_num, by omega, by rw [List.map_append]; exact H3.drop [] (fun p hp => by cases hp), hS2⟩
      | false =>
        have hS2 := hS.no (fun h => by have := hb.2 h; cases this)
        clear hb hir
        go_wp2_with fail
        go_roundg (gk - 1)
        case measure => omega
        case rel => exact ⟨n + 1, L, by go_num, by omega, H1, hS2⟩
    · have z1 : decide ((n : Int) < (t.length : Int)) = false := decide_eq_false (by omega)
      obtain rfl : n = t.length := by omega
      obtain ⟨A9, c9, rfl, hr9, -⟩ := H.parts
      have hN := NewI.of H
      rw [List.length_map] at hN ⊢
      by_cases hLe : L = []
      · have z2 : ¬ 0 < L.length := by rw [hLe]; simp
        have hN0 : NewI w wr (.slice none 0 0) [] := NewI.of ((H.imp fun _ h => star_tail h).row0 3 1)
        have HE : Unit → CheckDid t w (.returned (.tuple #[.slice none 0 0, .int .i64 0])) wr := fun _ => (Iff.of_eq (CheckDid.eq_1 ..)).2 ⟨_, [], rfl, hN0, hLe ▸ hS⟩
        clear hLe hN hN0 hS H hr9
        go_wp2_with fail
        go_ret2
        exact HE ()
      · have z2 : 0 < L.length := List.length_pos_iff.2 hLe
        have HE : Unit → CheckDid t w (.returned (.tuple #[.slice A9 L.length c9, .int .i64 110])) wr := fun _ => (Iff.of_eq (CheckDid.eq_1 ..)).2 ⟨_, L, by rw [if_neg hLe], hN, hS⟩
        clear hLe hN hS H hr9
        go_wp2_with fail
        go_ret2
        exact HE ()
end Go.Proofs.Ytojjjkeciiieeaa
