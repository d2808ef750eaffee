/- code: loop: the beginning of the least subprogram that calls itself. -/
import Derived.Test.YtibghcmkmbamjaaCCalls
import Derived.Test.YtibghcmkmbamjaaCWalk
namespace Go.Proofs.Ytibghcmkmbamjaa
open Go.RowKit Go.Shelf
set_option linter.unusedVariables false
set_option linter.unusedSimpArgs false
set_option linter.unusedSectionVars false
theorem ofP_bd (subs : List (Int × Int)) (a : Int) : -1 ≤ ofP subs a ∧ ofP subs a ≤ (subs.length : Int) := by
  unfold ofP
  cases hf : subs.findIdx? (inSub a) with
  | none => simp only; omega
  | some i =>
    obtain ⟨hi, -, -⟩ := List.findIdx?_eq_some_iff_getElem.1 hf
    simp only; omega
theorem callsP_okI {l : List Ins} {subs : List (Int × Int)} (hsl : subs.length ≤ 1100) (k : Int) : ∀ y ∈ callsP l subs k, okI y := fun y hy => by
  unfold callsP at hy
  obtain ⟨a, _, ha⟩ := List.mem_filterMap.1 hy
  cases hc : calleeP l a with
  | none => rw [hc] at ha; cases ha
  | some t =>
    rw [hc] at ha
    simp only at ha
    split at ha
    · cases ha
      have := ofP_bd subs t
      exact okI_of (by omega) (by omega)
    · cases ha
theorem allF_len2 {l : List Ins} : ∀ (f : Nat) (a : Int), (allF l f a).length ≤ f
  | 0, a => by simp [allF]
  | f + 1, a => by
    rw [allF]
    split
    · have := allF_len2 (l := l) f (a + szK (kindP l a))
      simp; omega
    · simp
theorem callsP_len2 (l : List Ins) (subs : List (Int × Int)) (k : Int) : (callsP l subs k).length ≤ l.length := by
  unfold callsP
  exact Nat.le_trans (List.length_filterMap_le _ _) (allF_len2 _ _)
section
variable {w : World} {p c bm : Nat} {A AS : Option Addr} {cS : Nat} {l : List Ins} {b : List Int} {subs : List (Int × Int)}
theorem steps105 (h : Prg w p A c l bm b (.slice AS subs.length cS)) (hs : RowsAt w AS 2 (subs.map encS)) (hsl : subs.length ≤ 1100) (hne : 0 < l.length) : Steps w 105 #[.pointer (some ⟨p, 0, none⟩)] #[] okI (callsP l subs) := fun x W _ u => by
  show Calls Try.prog 105 #[.pointer (some ⟨p, 0, none⟩), .int .i64 x] W _
  refine (calls105 (h.keep u) (hs.keep u) hsl hne x).mono ?_
  rintro e w' ⟨v, rfl, H⟩
  obtain ⟨B, k, rfl, hr, hlc, hm, hc⟩ := H.parts
  rw [List.length_map]
  exact ⟨B, k, rfl, hr, hc, H.u⟩
set_option maxRecDepth 100000 in
set_option maxHeartbeats 8000000 in
theorem loop76 (h : Prg w p A c l bm b (.slice AS subs.length cS)) (hs : RowsAt w AS 2 (subs.map encS)) (hsl : subs.length ≤ 32) (hne : 0 < l.length) (hw : ∀ k : Int, walkP (callsP l subs) (fuelC l subs) (callsP l subs k) [] = some (seenC l subs k)) :
    Calls Try.prog 76 #[.pointer (some ⟨p, 0, none⟩)] w fun e w' => e = .returned (.int .i64 (loopF l subs 0 subs)) ∧ Upd [] w w' := by
  have cp := cell_of h.blk 2
  have lp := lt_of_heap h.blk
  simp only [List.getElem?_toArray, List.getElem?_cons_zero, List.getElem?_cons_succ] at cp
  have hll := h.len
  go_enter Try.func76, Try.ntmps76
  go_wp2_with fail
  go_step3
  go_wp2_with fail
  go_step3
  go_wp2_with fail
  go_loopg [10, 3] subs.length (fun kq v10 v3 w' => ∃ i : Nat, v10 = .int .i64 (i : Int) ∧ kq + i = subs.length ∧ Upd [] w w' ∧ loopF l subs i (subs.drop i) = loopF l subs 0 subs)
  case atStart => exact ⟨0, rfl, rfl, Upd.refl _ _, rfl⟩
  case round =>
    clear cp lp
    obtain ⟨i, rfl, hk, U, hL⟩ := hrel
    by_cases hi : i < subs.length
    · have z1 : decide ((i : Int) < (subs.length : Int)) = true := decide_eq_true (by omega)
      have z2 : (0 : Int) ≤ (i : Int) := by omega
      have z3 : (i : Int) < (subs.length : Int) := by omega
      have y1 : IntKind.i64.wrap ((i : Int) + 1) = (i : Int) + 1 := IntWalk.i64_in _ (by omega)
      obtain ⟨s, hsi⟩ : ∃ s, subs[i]? = some s := ⟨subs[i], List.getElem?_eq_getElem hi⟩
      have hdr : subs.drop i = s :: subs.drop (i + 1) := by
        rw [List.drop_eq_getElem_cons hi]
        rw [List.getElem?_eq_getElem hi] at hsi
        cases hsi; rfl
      rw [hdr, loopF] at hL
      have UA := U.trans ((Upd.refl [] wr).alloc (.cells #[.int .i64 s.1, .int .i64 s.2] 53))
      have hc := calls105 (h.keep UA) (hs.keep UA) (by omega) hne (i : Int)
      have hst := steps105 (h.keep UA) (hs.keep UA) (by omega) hne
      have hb4 := heap_alloc_new wr (.cells #[.int .i64 s.1, .int .i64 s.2] 53)
      obtain ⟨b2, o2, rfl, k0, k1⟩ := cellS (hs.keep U) hsi
      have hcl := callsP_len2 l subs (i : Int)
      have hF := hw (i : Int)
      clear hdr hsi hs h
      go_wp2_with fail
      refine hc.mono ?_
      rintro e w1 ⟨v, rfl, H⟩
      obtain ⟨B, kc, rfl, hr, hlc, hm, hcz⟩ := H.parts
      rw [List.length_map] at H hlc
      rw [List.length_map]
      have hwk := walk73 H hr hlc hcz 105 #[.pointer (some ⟨p, 0, none⟩)] #[] (enters_of Try.func105 (by kernel_rfl) rfl) okI (callsP l subs) hst (callsP_okI (by omega) (i : Int)) (fun x _ => callsP_okI (by omega) x) (fun x hx => hx) (fuelC l subs) (seenC l subs (i : Int)) hF (by unfold fuelC; have : (subs.length + 2) * (l.length + 2) ≤ 34 * 1026 := Nat.mul_le_mul (by omega) (by omega); omega) (by omega) (fun x => by have := callsP_len2 l subs x; omega)
      clear hst hr hm hcz hF hw
      go_wp2_with fail
      refine hwk.mono ?_
      rintro e w2 ⟨bq, sl, rfl, H2, hsn⟩
      have r1 := look83 H2.map (i : Int) (okI_of (by omega) (by omega))
      rw [hsn] at r1
      have U2 := UA.trans H2.u
      have c4 := cell_of (H2.u.heap hb4 (by simp)) 0
      have l4 := lt_of_heap (H2.u.heap hb4 (by simp))
      simp only [List.getElem?_toArray, List.getElem?_cons_zero] at c4
      clear H H2 hsn hwk hc hb4 k0 k1
      by_cases hin : (i : Int) ∈ seenC l subs (i : Int)
      · rw [if_pos hin] at hL
        have zi : decide ((i : Int) ∈ seenC l subs (i : Int)) = true := decide_eq_true hin
        rw [zi] at r1
        clear zi hin
        obtain ⟨r, hr⟩ : ∃ r, r = s.1 := ⟨_, rfl⟩
        have HL : Unit → r = loopF l subs 0 subs := fun _ => hr.trans hL
        rw [← hr] at c4
        clear hL hr
        go_wp2_with fail
        rw [Exit.noGoto_ret]
        go_ret
        exact ⟨by rw [← HL ()]; rfl, U2⟩
      · rw [if_neg hin] at hL
        have zi : decide ((i : Int) ∈ seenC l subs (i : Int)) = false := decide_eq_false hin
        rw [zi] at r1
        clear zi hin
        go_wp2_with fail
        go_roundg (gk - 1)
        case measure => omega
        case rel => exact ⟨i + 1, by go_num, by omega, U2, hL⟩
    · have z1 : decide ((i : Int) < (subs.length : Int)) = false := decide_eq_false (by omega)
      rw [List.drop_eq_nil_of_le (by omega), loopF] at hL
      have HL : Unit → -1 = loopF l subs 0 subs := fun _ => hL
      clear hL hs h
      go_wp2_with fail
      rw [Exit.noGoto_ret]
      go_ret
      exact ⟨by rw [← HL ()]; rfl, U⟩
end
end Go.Proofs.Ytibghcmkmbamjaa
