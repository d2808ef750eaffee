/- code: CodeBack's walk. -/
import Derived.Test.YtibghcmkmbamjaaCAlive
import Derived.Test.YtibghcmkmbamjaaGObj
import Derived.Test.YtibghcmkmbamjaaGDec
namespace Go.Proofs.Ytibghcmkmbamjaa
open Go.RowKit Go.Shelf
set_option linter.unusedVariables false
set_option linter.unusedSimpArgs false
set_option linter.unusedSectionVars false
theorem nrows_len (l : List Ins) : ∀ r ∈ l.map encN, r.length = 5 := fun r hr => by
  obtain ⟨x, _, rfl⟩ := List.mem_map.1 hr
  rfl
theorem nrows_one (l : List Ins) : ∀ r ∈ l.map encN, ∀ u ∈ r, u.oneCell' = true := fun r hr u hu => by
  obtain ⟨x, _, rfl⟩ := List.mem_map.1 hr
  simp [encN] at hu
  rcases hu with rfl | rfl | rfl | rfl | rfl <;> rfl
/-- What is behind the guards. -/
theorem bytes_append (a b : List UInt8) : (⟨a.toArray⟩ : ByteArray) ++ ⟨b.toArray⟩ = ⟨(a ++ b).toArray⟩ := by
  apply ByteArray.ext
  simp
section
variable {A B : Option Addr} {l m : List Ins} {s : ByteArray} {w : World}
set_option maxRecDepth 100000 in
set_option maxHeartbeats 16000000 in
theorem back11 (ca cb : Nat) (hA : RowsAt w A 5 (l.map encN)) (hB : RowsAt w B 5 (m.map encN)) (hca : A = none → ca = 0) (hcb : B = none → cb = 0) (hokl : ∀ x ∈ l, OkI x) (hokm : ∀ x ∈ m, OkI x) (hll : l.length ≤ maxLen) (hlm : m.length ≤ maxLen) (hls : s.size ≤ maxLen) :
    Calls Try.prog 11 #[.slice A l.length ca, .slice B m.length cb, .string s] w fun e w' => e = .returned (.bool true) ∧ Upd [] w w' := by
  have hal := fun W => alive32 W
  unfold maxLen at hll hlm hls
  by_cases g1 : 200 < l.length
  · have z1 : decide ((200 : Int) < (l.length : Int)) = true := decide_eq_true (by omega)
    clear hA hB hca hcb g1
    go_enter Try.func11, Try.ntmps11
    go_wp2_with fail
    refine (hal _).mono ?_
    rintro e w1 ⟨rfl, u1⟩
    go_wp2_with fail
    go_ret
    exact ⟨rfl, u1⟩
  have z1 : decide ((200 : Int) < (l.length : Int)) = false := decide_eq_false (by omega)
  by_cases g2 : 200 < m.length
  · have z2 : decide ((200 : Int) < (m.length : Int)) = true := decide_eq_true (by omega)
    clear hA hB hca hcb g2
    go_enter Try.func11, Try.ntmps11
    go_wp2_with fail
    refine (hal _).mono ?_
    rintro e w1 ⟨rfl, u1⟩
    go_wp2_with fail
    go_ret
    exact ⟨rfl, u1⟩
  have z2 : decide ((200 : Int) < (m.length : Int)) = false := decide_eq_false (by omega)
  by_cases g3 : 2048 < s.size
  · have z3 : decide ((2048 : Int) < (s.size : Int)) = true := decide_eq_true (by omega)
    clear hA hB hca hcb g3
    go_enter Try.func11, Try.ntmps11
    go_wp2_with fail
    refine (hal _).mono ?_
    rintro e w1 ⟨rfl, u1⟩
    go_wp2_with fail
    go_ret
    exact ⟨rfl, u1⟩
  have z3 : decide ((2048 : Int) < (s.size : Int)) = false := decide_eq_false (by omega)
  go_enter Try.func11, Try.ntmps11
  go_wp2_with fail
  go_loopg [7] l.length (fun kq v7 w' => ∃ i : Nat, v7 = .int .i64 (i : Int) ∧ kq + i = l.length ∧ Upd [] w w' ∧ ∀ x ∈ l.take i, x.D ≤ 15 ∧ x.S ≤ 15)
  case atStart => exact ⟨0, rfl, rfl, Upd.refl _ _, by simp⟩
  case round =>
    obtain ⟨i, rfl, hk, hU, h15⟩ := hrel
    have H15 : Unit → ∀ x ∈ l.take i, x.D ≤ 15 ∧ x.S ≤ 15 := fun _ => h15
    clear h15
    by_cases hi : i < l.length
    · have y1 : decide ((i : Int) < (l.length : Int)) = true := decide_eq_true (by omega)
      obtain ⟨x, hx⟩ : ∃ x, l[i]? = some x := ⟨l[i], List.getElem?_eq_getElem hi⟩
      have y3 : (0 : Int) ≤ (i : Int) := by omega
      have y4 : (i : Int) < (l.length : Int) := by omega
      have y5 : IntKind.i64.wrap ((i : Int) + 1) = (i : Int) + 1 := IntWalk.i64_in _ (by omega)
      have htk : Unit → l.take (i + 1) = l.take i ++ [x] := fun _ => by rw [List.take_add_one, hx]; rfl
      obtain ⟨b, off, rfl, k0, k1, k2, k3, k4⟩ := cellN (hA.keep hU) hx
      clear hx hA hB hca hcb
      by_cases c1 : 15 < x.D
      · have x1 : decide ((15 : Int) < x.D) = true := decide_eq_true c1
        clear c1
        go_wp2_with fail
        refine (hal _).mono ?_
        rintro e w1 ⟨rfl, u1⟩
        go_wp2_with fail
        go_ret
        exact ⟨rfl, hU.trans u1⟩
      · have x1 : decide ((15 : Int) < x.D) = false := decide_eq_false c1
        by_cases c2 : 15 < x.S
        · have x2 : decide ((15 : Int) < x.S) = true := decide_eq_true c2
          clear c1 c2
          go_wp2_with fail
          refine (hal _).mono ?_
          rintro e w1 ⟨rfl, u1⟩
          go_wp2_with fail
          go_ret
          exact ⟨rfl, hU.trans u1⟩
        · have x2 : decide ((15 : Int) < x.S) = false := decide_eq_false c2
          have H2 : Unit → ∀ y ∈ l.take (i + 1), y.D ≤ 15 ∧ y.S ≤ 15 := fun _ y hy => by
            rw [htk ()] at hy
            rcases List.mem_append.1 hy with h | h
            · exact H15 () y h
            · simp at h; subst h; exact ⟨by omega, by omega⟩
          clear c1 c2
          go_wp2_with fail
          go_roundg (gk - 1)
          case measure => omega
          case rel => exact ⟨i + 1, by go_num, by omega, hU, H2 ()⟩
    · have y1 : decide ((i : Int) < (l.length : Int)) = false := decide_eq_false (by omega)
      have h15 : ∀ x ∈ l, x.D ≤ 15 ∧ x.S ≤ 15 := fun x hx => H15 () x (by rw [List.take_of_length_le (by omega)]; exact hx)
      have hde := decP_encBy l hokl h15
      clear H15
      have henc := encode41 (A := A) (l := l) ca wr (hA.keep hU) hokl (by omega)
      have hsz : (⟨(encBy l).toArray⟩ : ByteArray).size = 8 * l.length := by simp [ByteArray.size, encBy_len]
      go_wp2_with fail
      refine henc.mono ?_
      rintro e w1 ⟨rfl, u1⟩
      have hdec := decode40 ⟨(encBy l).toArray⟩ w1 (by rw [hsz]; omega) (by rw [hsz]; omega)
      rw [hde] at hdec
      clear hsz
      go_wp2_with fail
      refine hdec.mono ?_
      rintro e w2 ⟨v8, rfl, H2⟩
      have U2 := (hU.trans u1).trans H2.u
      obtain ⟨A8, c8, rfl, r8⟩ := H2.row
      rw [List.length_map]
      clear henc hdec H2 hU
      by_cases g8 : s.size % 8 = 0
      · have x8 : ((s.size : Int) % 8 == 0) = true := by
          have : (s.size : Int) % 8 = 0 := by omega
          simp [this]
        have hD2 := decode40 s w2 g8 (by omega)
        have hbk := encBy_decP s g8
        have hdl : (decP s).length ≤ 100000 := by rw [decP_len]; omega
        go_wp2_with fail
        refine hD2.mono ?_
        rintro e w3 ⟨v10, rfl, H3⟩
        obtain ⟨A10, c10, rfl, r10⟩ := H3.row
        rw [List.length_map]
        have U3 := U2.trans H3.u
        have r8 := r8.keep H3.u
        have hok10 : ∀ x ∈ decP s, OkI x := decP_ok s
        clear hD2 H3 U2 g8
        have H0 := (SepK.start w3).row1 24 5 #[] rfl
        obtain ⟨i0, hi0, hz0, hz1, hz2⟩ := info_parts info24
        have pA : PartAt (w3.alloc (.cells #[] 24)) (.slice A l.length ca) 5 (l.map encN) := ⟨A, ca, by rw [List.length_map], (hA.keep U3).keep ((Upd.refl [] _).alloc _), hca⟩
        have hB3 := hB.keep U3
        have hA3 := hA.keep U3
        clear hA hB
        go_wp2_with (first | (at_builtin; refine wl_part rfl (.tmp 59) (.tmp 60) 43 rfl 24 i0 _ 5 12 Try.underlying43 hi0 hz0 hz1 hz2 rfl (by decide) _ _ rfl H0 _ (l.map encN) rfl pA (nrows_len l) (nrows_one l) (by unfold maxLen; simp; omega) (by simp; omega) ?_; intro v4 w4 H4; have pB : PartAt w4 (.slice B m.length cb) 5 (m.map encN) := ⟨B, cb, by rw [List.length_map], hB3.keep H4.u, hcb⟩) | (at_builtin; refine wl_part rfl (.tmp 61) (.tmp 62) 43 rfl 24 i0 _ 5 12 Try.underlying43 hi0 hz0 hz1 hz2 rfl (by decide) _ _ rfl H4 _ (m.map encN) rfl pB (nrows_len m) (nrows_one m) (by unfold maxLen; simp; omega) (by simp; omega) ?_; intro v5 w5 H5))
        rw [List.nil_append, ← List.map_append] at H5
        have hoklm : ∀ x ∈ l ++ m, OkI x := fun x hx => (List.mem_append.1 hx).elim (hokl x) (hokm x)
        have hlml : (l ++ m).length ≤ 400 := by rw [List.length_append]; omega
        have x9 : (⟨(encBy l).toArray⟩ : ByteArray) ++ ⟨(encBy m).toArray⟩ = ⟨(encBy (l ++ m)).toArray⟩ := by rw [bytes_append, encBy_append]
        generalize l ++ m = lm at H5 hoklm hlml x9
        obtain ⟨A5, c5, rfl, r5⟩ := H5.row
        rw [List.length_map]
        have U5 := U3.trans H5.u
        have rA := hA3.keep H5.u
        have rB := hB3.keep H5.u
        have r8 := r8.keep H5.u
        have r10 := r10.keep H5.u
        clear H5 H4 H0 pA hA3 hB3
        refine (same42 (A := A8) (B := A) c8 ca l w5 r8 rA (by omega)).mono ?_
        rintro e w6 ⟨rfl, u6⟩
        have r5 := r5.keep u6
        have rA := rA.keep u6
        have rB := rB.keep u6
        have U6 := U5.trans u6
        have r10 := r10.keep u6
        clear r8 U5
        have e5 := encode41 (A := A5) (l := lm) c5 w6 r5 hoklm (by omega)
        go_wp2_with fail
        refine e5.mono ?_
        rintro e w7 ⟨rfl, u7⟩
        have rA := rA.keep u7
        have rB := rB.keep u7
        have U7 := U6.trans u7
        have r10 := r10.keep u7
        have e6 := encode41 (A := A) (l := l) ca w7 rA hokl (by omega)
        clear r5 e5
        go_wp2_with fail
        refine e6.mono ?_
        rintro e w8 ⟨rfl, u8⟩
        have rB := rB.keep u8
        have U8 := U7.trans u8
        have r10 := r10.keep u8
        have e7 := encode41 (A := B) (l := m) cb w8 rB hokm (by omega)
        clear rA e6
        have s1 : (⟨(encBy l).toArray⟩ : ByteArray).size = 8 * l.length := by simp [ByteArray.size, encBy_len]
        have s2 : (⟨(encBy m).toArray⟩ : ByteArray).size = 8 * m.length := by simp [ByteArray.size, encBy_len]
        go_wp2_with fail
        refine e7.mono ?_
        rintro e w9 ⟨rfl, u9⟩
        have U9 := U8.trans u9
        have r10 := r10.keep u9
        clear rB e7
        generalize (⟨(encBy l).toArray⟩ : ByteArray) = b1 at x9 s1 ⊢
        generalize (⟨(encBy m).toArray⟩ : ByteArray) = b2 at x9 s2 ⊢
        generalize (⟨(encBy lm).toArray⟩ : ByteArray) = b3 at x9 ⊢
        have x10 : b1.size + b2.size ≤ 9223372036854775807 := by omega
        clear s1 s2
        have e8 := encode41 (A := A10) (l := decP s) c10 w9 r10 hok10 hdl
        rw [hbk] at e8
        clear r10
        go_wp2_with fail
        refine e8.mono ?_
        rintro e w10 ⟨rfl, u10⟩
        have U9 := U9.trans u10
        go_wp2_with fail
        refine (hal _).mono ?_
        rintro e w11 ⟨rfl, u11⟩
        go_wp2_with fail
        go_ret
        exact ⟨rfl, U9.trans u11⟩
      · have x8 : ((s.size : Int) % 8 == 0) = false := by
          have : ¬ (s.size : Int) % 8 = 0 := by omega
          simpa using this
        have hD2 := decode40_form s w2 g8
        go_wp2_with fail
        refine hD2.mono ?_
        rintro e w3 ⟨rfl, rfl⟩
        have U3 := U2
        clear hD2 U2 g8
        have H0 := (SepK.start w2).row1 24 5 #[] rfl
        obtain ⟨i0, hi0, hz0, hz1, hz2⟩ := info_parts info24
        have pA : PartAt (w2.alloc (.cells #[] 24)) (.slice A l.length ca) 5 (l.map encN) := ⟨A, ca, by rw [List.length_map], (hA.keep U3).keep ((Upd.refl [] _).alloc _), hca⟩
        have hB3 := hB.keep U3
        have hA3 := hA.keep U3
        clear hA hB
        go_wp2_with (first | (at_builtin; refine wl_part rfl (.tmp 59) (.tmp 60) 43 rfl 24 i0 _ 5 12 Try.underlying43 hi0 hz0 hz1 hz2 rfl (by decide) _ _ rfl H0 _ (l.map encN) rfl pA (nrows_len l) (nrows_one l) (by unfold maxLen; simp; omega) (by simp; omega) ?_; intro v4 w4 H4; have pB : PartAt w4 (.slice B m.length cb) 5 (m.map encN) := ⟨B, cb, by rw [List.length_map], hB3.keep H4.u, hcb⟩) | (at_builtin; refine wl_part rfl (.tmp 61) (.tmp 62) 43 rfl 24 i0 _ 5 12 Try.underlying43 hi0 hz0 hz1 hz2 rfl (by decide) _ _ rfl H4 _ (m.map encN) rfl pB (nrows_len m) (nrows_one m) (by unfold maxLen; simp; omega) (by simp; omega) ?_; intro v5 w5 H5))
        rw [List.nil_append, ← List.map_append] at H5
        have hoklm : ∀ x ∈ l ++ m, OkI x := fun x hx => (List.mem_append.1 hx).elim (hokl x) (hokm x)
        have hlml : (l ++ m).length ≤ 400 := by rw [List.length_append]; omega
        have x9 : (⟨(encBy l).toArray⟩ : ByteArray) ++ ⟨(encBy m).toArray⟩ = ⟨(encBy (l ++ m)).toArray⟩ := by rw [bytes_append, encBy_append]
        generalize l ++ m = lm at H5 hoklm hlml x9
        obtain ⟨A5, c5, rfl, r5⟩ := H5.row
        rw [List.length_map]
        have U5 := U3.trans H5.u
        have rA := hA3.keep H5.u
        have rB := hB3.keep H5.u
        have r8 := r8.keep H5.u
        clear H5 H4 H0 pA hA3 hB3
        refine (same42 (A := A8) (B := A) c8 ca l w5 r8 rA (by omega)).mono ?_
        rintro e w6 ⟨rfl, u6⟩
        have r5 := r5.keep u6
        have rA := rA.keep u6
        have rB := rB.keep u6
        have U6 := U5.trans u6
        clear r8 U5
        have e5 := encode41 (A := A5) (l := lm) c5 w6 r5 hoklm (by omega)
        go_wp2_with fail
        refine e5.mono ?_
        rintro e w7 ⟨rfl, u7⟩
        have rA := rA.keep u7
        have rB := rB.keep u7
        have U7 := U6.trans u7
        have e6 := encode41 (A := A) (l := l) ca w7 rA hokl (by omega)
        clear r5 e5
        go_wp2_with fail
        refine e6.mono ?_
        rintro e w8 ⟨rfl, u8⟩
        have rB := rB.keep u8
        have U8 := U7.trans u8
        have e7 := encode41 (A := B) (l := m) cb w8 rB hokm (by omega)
        clear rA e6
        have s1 : (⟨(encBy l).toArray⟩ : ByteArray).size = 8 * l.length := by simp [ByteArray.size, encBy_len]
        have s2 : (⟨(encBy m).toArray⟩ : ByteArray).size = 8 * m.length := by simp [ByteArray.size, encBy_len]
        go_wp2_with fail
        refine e7.mono ?_
        rintro e w9 ⟨rfl, u9⟩
        have U9 := U8.trans u9
        clear rB e7
        generalize (⟨(encBy l).toArray⟩ : ByteArray) = b1 at x9 s1 ⊢
        generalize (⟨(encBy m).toArray⟩ : ByteArray) = b2 at x9 s2 ⊢
        generalize (⟨(encBy lm).toArray⟩ : ByteArray) = b3 at x9 ⊢
        have x10 : b1.size + b2.size ≤ 9223372036854775807 := by omega
        clear s1 s2
        go_wp2_with fail
        refine (hal _).mono ?_
        rintro e w11 ⟨rfl, u11⟩
        go_wp2_with fail
        go_ret
        exact ⟨rfl, U9.trans u11⟩
end
end Go.Proofs.Ytibghcmkmbamjaa
