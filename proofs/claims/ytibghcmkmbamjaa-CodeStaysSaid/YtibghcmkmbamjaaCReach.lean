/- code: what Check's fifth part finds: what nobody comes to. -/
import Derived.Test.YtibghcmkmbamjaaCFind
import Derived.Test.YtibghcmkmbamjaaCWalk
namespace Go.Proofs.Ytibghcmkmbamjaa
open Go.RowKit
set_option linter.unusedVariables false
set_option linter.unusedSimpArgs false
set_option linter.unusedSectionVars false
section
variable {w : World} {p : Nat} {A AS : Option Addr} {c cS : Nat} {l : List Ins} {bm : Nat} {b : List Int} {vS : Value} {subs : List (Int × Int)}
theorem next_okI (hok : ∀ x ∈ l, OkI x) (hl : l.length ≤ 1024) : ∀ x, okI x → ∀ y ∈ nextP l x, okI y := by
  intro x _ y hy
  by_cases h : 0 ≤ x ∧ x < (l.length : Int)
  · exact next_ok hok x h.1 (by omega) y hy
  · have : nextP l x = [] := by
      unfold nextP
      rw [if_pos (.inl (kindP_out h))]
    rw [this] at hy
    simp at hy
set_option maxRecDepth 100000 in
theorem steps74 {bl : Nat} (hr : RowsAt w A 5 (l.map encN)) (hok : ∀ x ∈ l, OkI x) (hl : l.length ≤ 1024) (hp : w.heap[bl]? = some (.cells #[.slice A l.length c] 43 (0, 0))) : Steps w 74 #[] #[.pointer (some ⟨bl, 0, none⟩)] okI (nextP l) := by
  intro x W hx u
  show Calls Try.prog 74 #[.int .i64 x, .pointer (some ⟨bl, 0, none⟩)] W _
  have hN := next38 (K := []) (T := emp) c (SepK.start W) (hr.keep u) hok x (by omega)
  have kb := cell_of (u.heap hp (by simp)) 0
  have lb := lt_of_heap (u.heap hp (by simp))
  simp only [List.getElem?_toArray, List.getElem?_cons_zero] at kb
  clear hp hr
  generalize nextP l x = nx at hN ⊢
  go_enter Try.func74, Try.ntmps74
  go_wp2_with fail
  refine hN.mono ?_
  rintro e w1 ⟨v, rfl, h1⟩
  obtain ⟨B, k, rfl, hB, -, -, hk⟩ := h1.parts
  rw [List.length_map] at h1
  go_wp2_with fail
  go_ret
  exact ⟨B, k, rfl, hB, hk, h1.u⟩
set_option maxRecDepth 100000 in
theorem unseen75 {bs bq : Nat} {sl : List (Int × Bool)} {seen : List Int} (hm : MapAt (Value.int .i64) Value.bool okI w bq sl) (hsl : ∀ x, (aget sl x).getD false = decide (x ∈ seen)) (hp : w.heap[bs]? = some (.cells #[.map (some bq)] 83 (0, 0))) (D : Int → Prop) (hD : ∀ x, D x → okI x) : Answers w 75 #[] #[.pointer (some ⟨bs, 0, none⟩)] (fun x : Int => Value.int .i64 x) D (fun a => !decide (a ∈ seen)) := by
  intro x hx W u
  show Calls Try.prog 75 #[.int .i64 x, .pointer (some ⟨bs, 0, none⟩)] W fun e W' => e = .returned (.bool (!decide (x ∈ seen))) ∧ Upd [] W W'
  have r1 := look83 (hm.kept u (by simp)) x (hD x hx)
  rw [hsl x] at r1
  have kb := cell_of (u.heap hp (by simp)) 0
  have lb := lt_of_heap (u.heap hp (by simp))
  simp only [List.getElem?_toArray, List.getElem?_cons_zero] at kb
  clear hp hm hsl
  generalize decide (x ∈ seen) = r at r1 ⊢
  go_enter Try.func75, Try.ntmps75
  go_wp2_with fail
  go_ret
  exact ⟨rfl, Upd.refl _ _⟩
set_option maxRecDepth 100000 in
set_option maxHeartbeats 8000000 in
theorem find72 {bp bl : Nat} (h : Prg w p A c l bm b (.slice AS subs.length cS)) (hs : RowsAt w AS 2 (subs.map encS)) (hsl : subs.length ≤ 1100) (hsk : ∀ s ∈ subs, okI s.1) (hne : 0 < l.length) (hp : w.heap[bp]? = some (.cells #[.pointer (some ⟨p, 0, none⟩)] 82 (0, 0))) (hbl : w.heap[bl]? = some (.cells #[.slice A l.length c] 43 (0, 0))) (F : Nat) (hF1 : F ≤ 100000) (seen : List Int) (hF : walkP (nextP l) F (subs.map (·.1)) [] = some seen) :
    Calls Try.prog 72 #[.pointer (some ⟨bp, 0, none⟩), .pointer (some ⟨bl, 0, none⟩)] w fun e w' => e = .returned (.int .i64 (firstP (fun a => !decide (a ∈ seen)) l)) ∧ Upd [] w w' := by
  have hst := steps74 h.row h.ok h.len hbl
  have H0 := (SepK.start w).row0 3 1
  have kb0 := cell_of hp 0
  have lb0 := lt_of_heap hp
  have c20 := cell_of h.blk 2
  have lp0 := lt_of_heap h.blk
  simp only [List.getElem?_toArray, List.getElem?_cons_zero, List.getElem?_cons_succ] at kb0 c20
  go_enter Try.func72, Try.ntmps72
  go_wp2_with fail
  go_loopg [3, 12] subs.length (fun kq v3 v12 w' => ∃ i : Nat, v12 = .int .i64 (i : Int) ∧ kq + i = subs.length ∧ SepK w w' [] (star (rowR 3 1 v3 (((subs.take i).map (·.1)).map encZi)) emp))
  case atStart => exact ⟨0, rfl, rfl, by simpa using H0⟩
  case round =>
    clear H0
    obtain ⟨i, rfl, hk, hS⟩ := hrel
    by_cases hi : i < subs.length
    · have z1 : decide ((i : Int) < (subs.length : Int)) = true := decide_eq_true (by omega)
      have z2 : (0 : Int) ≤ (i : Int) := by omega
      have z3 : (i : Int) < (subs.length : Int) := by omega
      obtain ⟨s, hsi⟩ : ∃ s, subs[i]? = some s := ⟨subs[i], List.getElem?_eq_getElem hi⟩
      obtain ⟨b2, o2, rfl, k0, k1⟩ := cellS (hs.keep hS.u) hsi
      have hts : ((subs.take (i + 1)).map (·.1)).map encZi = ((subs.take i).map (·.1)).map encZi ++ [encZi s.1] := by
        rw [List.take_add_one, hsi]; simp
      have htl : (((subs.take i).map (·.1)).map encZi).length ≤ 2000 := by simp; omega
      have h5 := (hS.alloc (.cells #[.int .i64 s.1, .int .i64 s.2] 53)).alloc (.cells #[.int .i64 s.1] 3)
      simp only [alloc_size] at h5
      obtain ⟨i0, hi0, hz0, hz1, hz2⟩ := info_parts info3
      have hnew : ∀ j u, (encZi s.1)[j]? = some u → ((wr.alloc (.cells #[.int .i64 s.1, .int .i64 s.2] 53)).alloc (.cells #[.int .i64 s.1] 3)).cell? ((⟨wr.heap.size + 1, 0, none⟩ : Addr).add j) = some u := by
        have := cell_one_z (wr.alloc (.cells #[.int .i64 s.1, .int .i64 s.2] 53)) s.1
        rwa [alloc_size] at this
      generalize ((subs.take i).map (·.1)).map encZi = rows at h5 hts htl hS
      clear hS hst
      go_wp2_with (at_builtin; refine wl_append rfl _ _ 56 rfl 3 i0 (.int .i64 0) 1 8 Try.underlying56 hi0 hz0 hz1 hz2 rfl (by decide) _ _ rfl h5 ⟨wr.heap.size + 1, 0, none⟩ 1 (encZi s.1) rfl rfl hnew (fun x hx => by simp [encZi] at hx; rcases hx with rfl; rfl) (by unfold maxLen; omega) (by omega) ?_; intro v' w5 h8)
      go_roundg (gk - 1)
      case measure => omega
      case rel => exact ⟨i + 1, by go_num, by omega, by rw [hts]; exact h8.drop [] (by simp)⟩
    · have z1 : decide ((i : Int) < (subs.length : Int)) = false := decide_eq_false (by omega)
      have hti : subs.take i = subs := List.take_of_length_le (by omega)
      rw [hti] at hS
      clear hti
      obtain ⟨A3, c3, rfl, hr3, hl3, hm3, hc3⟩ := hS.parts
      rw [List.length_map, List.length_map] at hS hl3
      have hL : (subs.map (·.1)).length = subs.length := by simp
      have hw := walk73 hS hr3 (by rw [hL]; exact hl3) hc3 74 #[] #[.pointer (some ⟨bl, 0, none⟩)] (enters_of Try.func74 (by kernel_rfl) rfl) okI (nextP l) hst (fun x hx => by obtain ⟨s, hs', rfl⟩ := List.mem_map.1 hx; exact hsk s hs') (next_okI h.ok h.len) (fun x hx => hx) F seen hF hF1 (by rw [hL]; omega) (fun x => by have := nextP_len l x; omega)
      rw [hL] at hw
      clear hS hr3 hc3 hL hm3 hl3 hst hF
      go_wp2_with fail
      refine hw.mono ?_
      rintro e w5 ⟨bq, sl, rfl, hS5, hsn⟩
      have h6 := hS5.alloc (.cells #[.map (some bq)] 83)
      have hb6 := h6.blk List.mem_cons_self
      have hPr := h.keep h6.u
      have hfin := first62 _ _ _ hPr.blk hPr.row hPr.ok hPr.len hne 75 #[] #[.pointer (some ⟨w5.heap.size, 0, none⟩)] (enters_of Try.func75 (by kernel_rfl) rfl) _ (unseen75 h6.map hsn hb6 (· ∈ allP l) (fun x hx => by obtain ⟨n, rfl, hn⟩ := allP_mem hx; have := h.len; exact okI_of (by omega) (by omega)))
      obtain ⟨r, hrr⟩ : ∃ r, firstP (fun a => !decide (a ∈ seen)) l = r := ⟨_, rfl⟩
      rw [hrr] at hfin
      have hH : Unit → firstP (fun a => !decide (a ∈ seen)) l = r := fun _ => hrr
      clear hrr
      have kb := h6.u.cell kb0 (by simp)
      have lb := Nat.lt_of_lt_of_le lb0 h6.u.size
      have U6 := h6.u
      have kb5 := hS5.u.cell kb0 (by simp)
      have lb5 := Nat.lt_of_lt_of_le lb0 hS5.u.size
      clear hw h6 hS5 hb6 hPr hsn
      go_wp2_with fail
      refine hfin.mono ?_
      rintro e w7 ⟨rfl, u7⟩
      go_wp2_with fail
      go_ret
      exact ⟨by rw [hH ()]; rfl, U6.trans u7⟩
end
end Go.Proofs.Ytibghcmkmbamjaa
