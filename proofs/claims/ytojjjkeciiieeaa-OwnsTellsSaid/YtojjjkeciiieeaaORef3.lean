/- owns: the document's reach, walked. -/
import Derived.Test.YtojjjkeciiieeaaORef2
namespace Go.Proofs.Ytojjjkeciiieeaa
open Go.RowKit
set_option linter.unusedVariables false
set_option linter.unusedSimpArgs false
set_option linter.unusedSectionVars false
def RefReachDid (t : Tab) (i : Int) (w : World) (e : Ending) (w' : World) : Prop := ∃ v B, e = .returned v ∧ SepK w w' [] (star (rowR 4 1 v (B.map encB)) emp) ∧ B.length = t.length ∧ DoneB t i B
set_option maxRecDepth 100000 in
set_option maxHeartbeats 8000000 in
theorem rreach28 {t : Tab} {v : Value} {w : World} (hT : TabAt w v t) (hF : Fits t) (i : Int) (hi : 0 ≤ i ∧ i < (t.length : Int)) :
    Calls Try.prog 28 #[v, .int .i64 i] w (RefReachDid t i w) := by
  obtain ⟨A, c, rfl, -⟩ := id hT
  have htl := hF.1
  obtain ⟨i4, hi4, hz0, hz1, hz2⟩ := info_parts info4
  have hmk : (Instr.makeSlice 52 (.int .i64 (t.length : Int)) (.int .i64 (t.length : Int))).run Try.prog w = .ok (.slice (some ⟨w.heap.size, 0, none⟩) t.length t.length) (w.alloc (.cells (madeCells #[.bool false] (t.length * 1)) 4)) := by
    have := run_make (P := Try.prog) w 52 4 i4 (.bool false) Try.underlying52 hi4 hz0 .i64 .i64 (t.length : Int) (t.length : Int) (by omega) (by omega) (by rw [hz2]; omega) (by omega)
    rw [hz1] at this
    exact this
  have H0 := (SepK.start w).bools t.length htl
  have I0 := InvB.start t i
  rw [Nat.mul_one] at H0 hmk
  go_enter Try.func28, Try.ntmps28
  go_upto_region 2 with fail
  generalize List.replicate t.length false = B0 at H0 I0
  obtain ⟨g, hg⟩ : ∃ g, g = w.heap.size := ⟨_, rfl⟩
  rw [← hg] at H0 ⊢
  generalize w.alloc (.cells (madeCells #[.bool false] t.length) 4) = w1 at H0 ⊢
  clear hg hmk
  go_wp2_with fail
  go_loopg [6] t.length (fun kq v6 w' => ∃ (n : Nat) (B : List Bool), v6 = .int .i64 (n : Int) ∧ kq + n = t.length ∧ SepK w w' [] (star (rowR 4 1 (.slice (some ⟨g, 0, none⟩) t.length t.length) (B.map encB)) emp) ∧ InvB t i n B)
  case atStart => exact ⟨0, B0, rfl, rfl, H0, I0⟩
  case round =>
    clear H0 I0
    obtain ⟨n, B, rfl, hk, H, hI⟩ := hrel
    obtain ⟨g1, hg1⟩ : ∃ g, g = gk := ⟨_, rfl⟩
    by_cases hn : n < t.length
    · have y1 : decide ((n : Int) < (t.length : Int)) = true := decide_eq_true (by omega)
      go_wp2_with fail
      go_loopg [7] t.length (fun kq v7 w' => ∃ (k : Nat) (B' : List Bool), v7 = .int .i64 (k : Int) ∧ kq + k = t.length ∧ SepK w w' [] (star (rowR 4 1 (.slice (some ⟨g, 0, none⟩) t.length t.length) (B'.map encB)) emp) ∧ SoundB t i B' ∧ LeB B B' ∧ CovB t i k B B')
      case atStart => exact ⟨0, B, rfl, rfl, H, hI.1, LeB.refl _, fun k' h => by omega⟩
      case round =>
        clear H
        obtain ⟨k, B', rfl, hk2, H, hS, hLe, hCv⟩ := hrel
        obtain ⟨g2, hg2⟩ : ∃ g, g = gk := ⟨_, rfl⟩
        have hBl : B'.length = t.length := hS.1
        by_cases hkl : k < t.length
        · have y2 : decide ((k : Int) < (t.length : Int)) = true := decide_eq_true (by omega)
          obtain ⟨A9, c9, e9, hr9, -⟩ := H.parts
          obtain ⟨bb, hbb⟩ : ∃ b, B'[k]? = some b := ⟨_, List.getElem?_eq_getElem (by omega)⟩
          obtain ⟨g', off', e9', hc9⟩ := hr9 k (encB bb) (by rw [List.getElem?_map, hbb]; rfl)
          rw [List.length_map, hBl] at e9
          cases e9
          cases e9'
          have kB := hc9 0 _ rfl
          simp only [Nat.zero_add, Nat.add_zero, Nat.mul_one] at kB
          have y3 : (0 : Int) ≤ (k : Int) := by omega
          have y4 : (k : Int) < (t.length : Int) := by omega
          clear hr9 hc9
          by_cases hgo : (k : Int) = i ∨ bb = true
          · have hrk : ∀ y ∈ adj t (k : Int), Rch (adj t) i y := fun y hy => by
              rcases hgo with e | e
              · exact .one (e ▸ hy)
              · subst e; exact (hS.2 k hbb).snoc hy
            have HRK : Unit → ∀ y ∈ adj t (k : Int), Rch (adj t) i y := fun _ => hrk
            have hz : ((k : Int) == i) = true ∨ (((k : Int) == i) = false ∧ bb = true) := by
              by_cases e : (k : Int) = i
              · exact .inl (by simp [e])
              · exact .inr ⟨by simp [e], hgo.resolve_left e⟩
            clear hrk hgo hbb
            rcases hz with z1 | ⟨z1, rfl⟩
            all_goals
              go_wp2_with fail
              refine (rHolds14 (hT.keep H.u) hF (k : Int)).mono ?_
              rintro e w2 ⟨s, rfl, hN⟩
              have hAl : (adj t (k : Int)).length ≤ t.length := (adj_rising t k).bound fun x hx => adj_within t k x hx
              obtain ⟨A2, c2, rfl, -⟩ := hN.look
              have H1 := (H.more hN.2 hN.1 (fun b hb => hb)).swap
              clear hN H
              go_wp2_with fail
              go_loopg [9] (adj t (k : Int)).length (fun kq v9 w' => ∃ (j : Nat) (B2 : List Bool), v9 = .int .i64 (j : Int) ∧ kq + j = (adj t (k : Int)).length ∧ SepK w w' [] (star (rowR 4 1 (.slice (some ⟨g, 0, none⟩) t.length t.length) (B2.map encB)) (star (rowR 3 1 (.slice A2 (adj t (k : Int)).length c2) ((adj t (k : Int)).map encI)) emp)) ∧ SoundB t i B2 ∧ LeB B' B2 ∧ ∀ x ∈ (adj t (k : Int)).take j, B2[x.toNat]? = some true)
              case atStart => exact ⟨0, B', rfl, by omega, H1, hS, LeB.refl _, by simp⟩
              case round =>
                clear H1
                obtain ⟨j, B2, rfl, hk3, H, hS2, hLe2, hM⟩ := hrel
                have HM : Unit → ∀ x ∈ (adj t (k : Int)).take j, B2[x.toNat]? = some true := fun _ => hM
                clear hM
                have hB2l : B2.length = t.length := hS2.1
                by_cases hj : j < (adj t (k : Int)).length
                · have x1 : decide ((j : Int) < ((adj t (k : Int)).length : Int)) = true := decide_eq_true (by omega)
                  obtain ⟨y, hy⟩ : ∃ y, (adj t (k : Int))[j]? = some y := ⟨_, List.getElem?_eq_getElem hj⟩
                  have hya := List.mem_of_getElem? hy
                  have hyr := adj_within t _ _ hya
                  have hyR := HRK () y hya
                  obtain ⟨yn, rfl⟩ : ∃ yn : Nat, y = yn := ⟨y.toNat, by omega⟩
                  obtain ⟨A3, c3, e3, hr3, -⟩ := H.swap.parts
                  rw [List.length_map] at e3
                  cases e3
                  obtain ⟨b3, o3, rfl, k3⟩ := one_cell hr3 hy
                  obtain ⟨A8, c8, e8, hr8, -⟩ := H.parts
                  obtain ⟨b2, hb2⟩ : ∃ b, B2[yn]? = some b := ⟨_, List.getElem?_eq_getElem (by omega)⟩
                  obtain ⟨g', off', e8', hc8⟩ := hr8 yn (encB b2) (by rw [List.getElem?_map, hb2]; rfl)
                  rw [List.length_map, hB2l] at e8
                  cases e8
                  cases e8'
                  have kC := hc8 0 _ rfl
                  simp only [Nat.zero_add, Nat.add_zero, Nat.mul_one] at kC
                  obtain ⟨-, ff, lg⟩ := H.free1 (i := yn) (by rw [List.length_map]; omega)
                  have fC := ff yn
                  have x2 : (j : Int) < ((adj t (k : Int)).length : Int) := by omega
                  have x3 : (yn : Int) < (t.length : Int) := hyr.2
                  have H2 := H.set1 (i := yn) (by rw [List.length_map]; omega) (.bool true)
                  rw [Nat.zero_add, show (B2.map encB).set yn [.bool true] = (B2.set yn true).map encB by rw [List.map_set]; rfl] at H2
                  have hS3 := hS2.mark hyr.1 hyR
                  rw [Int.toNat_natCast] at hS3
                  have hLe3 := hLe2.trans (LeB.mark B2 yn)
                  have HM3 : Unit → ∀ x ∈ (adj t (k : Int)).take (j + 1), (B2.set yn true)[x.toNat]? = some true := fun _ x hx => by
                    rw [List.take_add_one, hy] at hx
                    rcases List.mem_append.1 hx with h | h
                    · exact LeB.mark B2 yn _ (HM () x h)
                    · simp at h; subst h
                      rw [Int.toNat_natCast, List.getElem?_set_self (by omega)]
                  clear hr3 hr8 hc8 ff HM hy hb2 hyR
                  go_wp2_with fail
                  go_roundg (gk - 1)
                  case measure => omega
                  case rel => exact ⟨j + 1, B2.set yn true, by go_num, by omega, H2, hS3, hLe3, HM3 ()⟩
                · have x1 : decide ((j : Int) < ((adj t (k : Int)).length : Int)) = false := decide_eq_false (by omega)
                  have hcv2 : CovB t i (k + 1) B B2 := (hCv.more hLe2).next fun _ x hx => HM () x (by rw [List.take_of_length_le (by omega)]; exact hx)
                  have H2 := H.imp fun _ h => star_imp h fun _ h => star_tail h
                  clear HM hk3
                  go_wp2_with fail
                  go_roundg (g2 - 1)
                  case measure => omega
                  case rel => exact ⟨k + 1, B2, by go_num, by omega, H2, hS2, hLe.trans hLe2, hcv2⟩
          · have z1 : ((k : Int) == i) = false := by simp; exact fun e => hgo (.inl e)
            obtain rfl : bb = false := by cases bb with | false => rfl | true => exact absurd (.inr rfl) hgo
            have hcv2 : CovB t i (k + 1) B B' := hCv.next fun hq => absurd hq (fun h => by
              rcases h with h | h
              · exact hgo (.inl h)
              · have := hLe k h; rw [hbb] at this; simp at this)
            clear hgo hbb
            go_wp2_with fail
            go_roundg (g2 - 1)
            case measure => omega
            case rel => exact ⟨k + 1, B', by go_num, by omega, H, hS, hLe, hcv2⟩
        · have y2 : decide ((k : Int) < (t.length : Int)) = false := decide_eq_false (by omega)
          obtain rfl : k = t.length := by omega
          have hI2 := hI.sweep hi hS hLe hCv
          clear hk2 hg2
          go_wp2_with fail
          go_roundg (g1 - 1)
          case measure => omega
          case rel => exact ⟨n + 1, B', by go_num, by omega, H, hI2⟩
    · have y1 : decide ((n : Int) < (t.length : Int)) = false := decide_eq_false (by omega)
      obtain rfl : n = t.length := by omega
      have hD := hI.done
      have hBl := hI.1.1
      go_wp2_with fail
      go_ret
      exact (Iff.of_eq (RefReachDid.eq_1 ..)).2 ⟨_, B, rfl, H, hBl, hD⟩
end Go.Proofs.Ytojjjkeciiieeaa
