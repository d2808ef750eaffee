/- An instruction's bytes: the document's answer is the program's. -/
import Derived.Test.YtibghcmkmbamjaaPu2
import Derived.Test.YtibghcmkmbamjaaPIx10
import Derived.Test.YtibghcmkmbamjaaPIx11
import Derived.Test.YtibghcmkmbamjaaPIx12
namespace Go.Proofs.Ytibghcmkmbamjaa.PI
open Go.RowKit Go.Proofs.YtibghcmkmbamjaaW.PrintWords Go.Proofs.YtibghcmkmbamjaaW.PrintLast Go.Proofs.YtibghcmkmbamjaaW.PrintMore
set_option linter.unusedVariables false
set_option linter.unusedSimpArgs false
theorem rget_2 (k : Nat) (s : ByteArray) (h : (s.size : Int) = 8) : wardenref01_Get.f (k + 6) s 2 2 = some (le2 s, 0) := by
  obtain ⟨a0, a1⟩ := bt_range s 2
  obtain ⟨b0, b1⟩ := bt_range s 3
  have hm : wardenref01_May.f 2 = some true := rfl
  unfold wardenref01_Get.f
  rw [hm, bsome, if_pos rfl]
  simp only [wardenref01_Get.j0, wardenref01_Get.j1, wardenref01_Get.l0, h]
  have e0 : wrap64 (8 - 2) = 6 := by decide +kernel
  have e1 : wrap64 (2 - 1) = 1 := by decide +kernel
  have e2 : wrap64 (2 + 1) = 3 := by decide +kernel
  have e3 : wrap64 (1 - 1) = 0 := by decide +kernel
  have e4 : wrap64 (2 + 0) = 2 := by decide +kernel
  have e5 : wrap64 (0 - 1) = -1 := by decide +kernel
  simp only [e0, e1, e2, e3, e4, e5, wrap_u64]
  simp
  unfold le2
  omega
theorem rget_4 (k : Nat) (s : ByteArray) (h : (s.size : Int) = 8) : wardenref01_Get.f (k + 8) s 4 4 = some (le4 s, 0) := by
  obtain ⟨a0, a1⟩ := bt_range s 4
  obtain ⟨b0, b1⟩ := bt_range s 5
  obtain ⟨c0, c1⟩ := bt_range s 6
  obtain ⟨d0, d1⟩ := bt_range s 7
  have hm : wardenref01_May.f 4 = some true := rfl
  unfold wardenref01_Get.f
  rw [hm, bsome, if_pos rfl]
  simp only [wardenref01_Get.j0, wardenref01_Get.j1, wardenref01_Get.l0, h]
  have e0 : wrap64 (8 - 4) = 4 := by decide +kernel
  have e1 : wrap64 (4 - 1) = 3 := by decide +kernel
  have e2 : wrap64 (4 + 3) = 7 := by decide +kernel
  have e3 : wrap64 (3 - 1) = 2 := by decide +kernel
  have e4 : wrap64 (4 + 2) = 6 := by decide +kernel
  have e5 : wrap64 (2 - 1) = 1 := by decide +kernel
  have e6 : wrap64 (4 + 1) = 5 := by decide +kernel
  have e7 : wrap64 (1 - 1) = 0 := by decide +kernel
  have e8 : wrap64 (4 + 0) = 4 := by decide +kernel
  have e9 : wrap64 (0 - 1) = -1 := by decide +kernel
  simp only [e0, e1, e2, e3, e4, e5, e6, e7, e8, e9, wrap_u64]
  simp
  unfold le4
  omega
theorem rOf_2 (k : Nat) (x : Int) (h0 : 0 ≤ x) (h1 : x < 18446744073709551616) : wardenref01_Of.f (k + 3) x 2 = some (strOfNums [x % 256, x / 256 % 256]) := by
  have hm : wardenref01_May.f 2 = some true := rfl
  have e1 : wrap64 (0 + 1) = 1 := by decide +kernel
  have e2 : wrap64 (1 + 1) = 2 := by decide +kernel
  have t0 : IntKind.u64.wrap (Int.tdiv x 256) = x / 256 := by rw [Int.tdiv_eq_ediv_of_nonneg h0, wrap_u64_in _ (by omega) (by omega)]
  have t1 : IntKind.u64.wrap (Int.tdiv (x / 256) 256) = x / 65536 := by rw [Int.tdiv_eq_ediv_of_nonneg (by omega), wrap_u64_in _ (by omega) (by omega)]; omega
  have m0 : Int.tmod x 256 % 256 = x % 256 := by rw [Int.tmod_eq_emod_of_nonneg h0]; omega
  have m1 : Int.tmod (x / 256) 256 % 256 = x / 256 % 256 := by rw [Int.tmod_eq_emod_of_nonneg (by omega)]; omega
  have e0 : (⟨#[]⟩ : ByteArray) = strOfNums [] := rfl
  unfold wardenref01_Of.f
  rw [hm, bsome, if_pos rfl]
  simp only [wardenref01_Of.l0, bsome, e0, e1, e2, t0, t1, m0, m1, strs_append, strOfNums_size]
  simp
theorem rOf_4 (k : Nat) (x : Int) (h0 : 0 ≤ x) (h1 : x < 18446744073709551616) : wardenref01_Of.f (k + 5) x 4 = some (strOfNums [x % 256, x / 256 % 256, x / 65536 % 256, x / 16777216 % 256]) := by
  have hm : wardenref01_May.f 4 = some true := rfl
  have e1 : wrap64 (0 + 1) = 1 := by decide +kernel
  have e2 : wrap64 (1 + 1) = 2 := by decide +kernel
  have e3 : wrap64 (2 + 1) = 3 := by decide +kernel
  have e4 : wrap64 (3 + 1) = 4 := by decide +kernel
  have t0 : IntKind.u64.wrap (Int.tdiv x 256) = x / 256 := by rw [Int.tdiv_eq_ediv_of_nonneg h0, wrap_u64_in _ (by omega) (by omega)]
  have t1 : IntKind.u64.wrap (Int.tdiv (x / 256) 256) = x / 65536 := by rw [Int.tdiv_eq_ediv_of_nonneg (by omega), wrap_u64_in _ (by omega) (by omega)]; omega
  have t2 : IntKind.u64.wrap (Int.tdiv (x / 65536) 256) = x / 16777216 := by rw [Int.tdiv_eq_ediv_of_nonneg (by omega), wrap_u64_in _ (by omega) (by omega)]; omega
  have t3 : IntKind.u64.wrap (Int.tdiv (x / 16777216) 256) = x / 4294967296 := by rw [Int.tdiv_eq_ediv_of_nonneg (by omega), wrap_u64_in _ (by omega) (by omega)]; omega
  have m0 : Int.tmod x 256 % 256 = x % 256 := by rw [Int.tmod_eq_emod_of_nonneg h0]; omega
  have m1 : Int.tmod (x / 256) 256 % 256 = x / 256 % 256 := by rw [Int.tmod_eq_emod_of_nonneg (by omega)]; omega
  have m2 : Int.tmod (x / 65536) 256 % 256 = x / 65536 % 256 := by rw [Int.tmod_eq_emod_of_nonneg (by omega)]; omega
  have m3 : Int.tmod (x / 16777216) 256 % 256 = x / 16777216 % 256 := by rw [Int.tmod_eq_emod_of_nonneg (by omega)]; omega
  have e0 : (⟨#[]⟩ : ByteArray) = strOfNums [] := rfl
  unfold wardenref01_Of.f
  rw [hm, bsome, if_pos rfl]
  simp only [wardenref01_Of.l0, bsome, e0, e1, e2, e3, e4, t0, t1, t2, t3, m0, m1, m2, m3, strs_append, strOfNums_size]
  simp
theorem rEncode_eq (k : Nat) (op D S O M : Int) (h0 : 0 ≤ D) (h1 : D ≤ 255) (g0 : 0 ≤ S) (g1 : S ≤ 255) : wardenref07_Encode.f (k + 6) op D S O M = some (strOfNums (encL op D S O M)) := by
  unfold wardenref07_Encode.f
  obtain ⟨o1, o2, -, -⟩ := u64_bytes O
  obtain ⟨m1, m2, m3, m4⟩ := u64_bytes M
  have wo := wrap_u64 O
  have wm := wrap_u64 M
  rw [bsome, rOf_2 (k + 3) _ (by omega) (by omega), bsome, rOf_4 (k + 1) _ (by omega) (by omega), bsome, o1, o2, m1, m2, m3, m4, Int.tmod_eq_emod_of_nonneg h0, Int.tmod_eq_emod_of_nonneg g0]
  have e : (D % 16 + S % 16 * 16 % 256) % 256 = D % 16 + S % 16 * 16 := by omega
  rw [e]
  simp only [strs_append, strOfNums_size]
  rw [if_pos (by simp), if_pos (by simp)]
  rfl
/-- The sign of so many bytes. -/
theorem rSign_2 (k : Nat) (x : Int) (h0 : 0 ≤ x) (h1 : x < 65536) : wardenref01_Sign.f (k + 8) x 2 = some (if x / 256 ≥ 128 then x - 65536 else x) := by
  have hm : wardenref01_May.f 2 = some true := rfl
  have e0 : wrap64 (2 - 1) = 1 := by decide +kernel
  have e1 : wrap64 (1 - 1) = 0 := by decide +kernel
  have e2 : wrap64 (0 - 1) = -1 := by decide +kernel
  have b0 : bt (strOfNums [x % 256, x / 256 % 256]) 0 = x % 256 := bt_strs _ 0 _ rfl (by omega) (by omega)
  have b1 : bt (strOfNums [x % 256, x / 256 % 256]) 1 = x / 256 := by
    rw [show x / 256 = x / 256 % 256 by omega]
    exact bt_strs _ 1 _ (by simp) (by omega) (by omega)
  have w64 : ∀ n : Int, -9223372036854775808 ≤ n → n ≤ 9223372036854775807 → wrap64 n = n := fun n h1 h2 => by unfold wrap64; omega
  unfold wardenref01_Sign.f
  rw [hm, bsome, if_pos rfl, rOf_2 (k + 5) x h0 (by omega), bsome]
  simp only [wardenref01_Sign.j0, wardenref01_Sign.l0, e0, e1, e2, b0, b1, strOfNums_size]
  rw [if_pos (by decide), if_pos (by simp)]
  have s0 : (0 : Int) < (([x % 256, x / 256 % 256] : List Int).length : Int) := by simp
  have s1 : (1 : Int) < (([x % 256, x / 256 % 256] : List Int).length : Int) := by simp
  simp only [s0, s1, if_true, ge_iff_le, Int.le_refl, show (0 : Int) ≤ 1 by decide, show ¬ (0 : Int) ≤ -1 by decide, if_false]
  rw [w64 (-1 * 256) (by decide) (by decide), w64 (0 * 256) (by decide) (by decide), w64 (x / 256) (by omega) (by omega), w64 (x % 256) (by omega) (by omega)]
  rw [or_i64 (-1) (x / 256) (by omega) (by omega) (by omega), or_i64 0 (x / 256) (by omega) (by omega) (by omega), w64 _ (by omega) (by omega), w64 _ (by omega) (by omega), or_i64 _ (x % 256) (by omega) (by omega) (by omega), or_i64 _ (x % 256) (by omega) (by omega) (by omega)]
  by_cases hc : 128 ≤ x / 256
  · rw [if_pos hc, if_pos hc, show (-1 * 256 + x / 256) * 256 + x % 256 = x - 65536 by omega]
  · rw [if_neg hc, if_neg hc, show (0 * 256 + x / 256) * 256 + x % 256 = x by omega]
theorem rSign_4 (k : Nat) (x : Int) (h0 : 0 ≤ x) (h1 : x < 4294967296) : wardenref01_Sign.f (k + 8) x 4 = some (if x / 16777216 ≥ 128 then x - 4294967296 else x) := by
  have hm : wardenref01_May.f 4 = some true := rfl
  have e0 : wrap64 (4 - 1) = 3 := by decide +kernel
  have e1 : wrap64 (3 - 1) = 2 := by decide +kernel
  have e2 : wrap64 (2 - 1) = 1 := by decide +kernel
  have e3 : wrap64 (1 - 1) = 0 := by decide +kernel
  have e4 : wrap64 (0 - 1) = -1 := by decide +kernel
  obtain ⟨L, hL⟩ : ∃ L, L = [x % 256, x / 256 % 256, x / 65536 % 256, x / 16777216 % 256] := ⟨_, rfl⟩
  have b0 : bt (strOfNums L) 0 = x % 256 := by subst hL; exact bt_strs _ 0 _ rfl (by omega) (by omega)
  have b1 : bt (strOfNums L) 1 = x / 256 % 256 := by subst hL; exact bt_strs _ 1 _ rfl (by omega) (by omega)
  have b2 : bt (strOfNums L) 2 = x / 65536 % 256 := by subst hL; exact bt_strs _ 2 _ rfl (by omega) (by omega)
  have b3 : bt (strOfNums L) 3 = x / 16777216 := by
    subst hL
    rw [show x / 16777216 = x / 16777216 % 256 by omega]
    exact bt_strs _ 3 _ (by simp) (by omega) (by omega)
  have hlen : (L.length : Int) = 4 := by subst hL; rfl
  have w64 : ∀ n : Int, -9223372036854775808 ≤ n → n ≤ 9223372036854775807 → wrap64 n = n := fun n h1 h2 => by unfold wrap64; omega
  unfold wardenref01_Sign.f
  rw [hm, bsome, if_pos rfl, rOf_4 (k + 3) x h0 (by omega), bsome, ← hL]
  simp only [wardenref01_Sign.j0, wardenref01_Sign.l0, e0, e1, e2, e3, e4, b0, b1, b2, b3, strOfNums_size, hlen]
  simp only [ge_iff_le, Int.le_refl, show (0 : Int) ≤ 3 by decide, show (3 : Int) < 4 by decide, show (0 : Int) ≤ 2 by decide, show (2 : Int) < 4 by decide, show (0 : Int) ≤ 1 by decide, show (1 : Int) < 4 by decide, show (0 : Int) < 4 by decide, show ¬ (0 : Int) ≤ -1 by decide, if_true, if_false]
  rw [w64 (-1 * 256) (by decide) (by decide), w64 (0 * 256) (by decide) (by decide), w64 (x / 16777216) (by omega) (by omega), w64 (x / 65536 % 256) (by omega) (by omega), w64 (x / 256 % 256) (by omega) (by omega), w64 (x % 256) (by omega) (by omega)]
  have step : ∀ a b : Int, -4294967296 ≤ a → a ≤ 4294967296 → 0 ≤ b → b ≤ 255 → Go.bits .or .i64 (wrap64 (a * 256)) b = a * 256 + b := fun a b h1 h2 h3 h4 => by
    rw [w64 _ (by omega) (by omega), or_i64 a b (by omega) h3 h4]
  rw [or_i64 (-1) (x / 16777216) (by omega) (by omega) (by omega), or_i64 0 (x / 16777216) (by omega) (by omega) (by omega)]
  rw [step (-1 * 256 + x / 16777216) (x / 65536 % 256) (by omega) (by omega) (by omega) (by omega), step (0 * 256 + x / 16777216) (x / 65536 % 256) (by omega) (by omega) (by omega) (by omega)]
  rw [step ((-1 * 256 + x / 16777216) * 256 + x / 65536 % 256) (x / 256 % 256) (by omega) (by omega) (by omega) (by omega), step ((0 * 256 + x / 16777216) * 256 + x / 65536 % 256) (x / 256 % 256) (by omega) (by omega) (by omega) (by omega)]
  rw [step (((-1 * 256 + x / 16777216) * 256 + x / 65536 % 256) * 256 + x / 256 % 256) (x % 256) (by omega) (by omega) (by omega) (by omega), step (((0 * 256 + x / 16777216) * 256 + x / 65536 % 256) * 256 + x / 256 % 256) (x % 256) (by omega) (by omega) (by omega) (by omega)]
  by_cases hc : 128 ≤ x / 16777216
  · rw [if_pos hc, if_pos hc, show (((-1 * 256 + x / 16777216) * 256 + x / 65536 % 256) * 256 + x / 256 % 256) * 256 + x % 256 = x - 4294967296 by omega]
  · rw [if_neg hc, if_neg hc, show (((0 * 256 + x / 16777216) * 256 + x / 65536 % 256) * 256 + x / 256 % 256) * 256 + x % 256 = x by omega]
theorem rDecode_eq (k : Nat) (s : ByteArray) : wardenref07_Decode.f (k + 8) s = some (decF s) := by
  unfold wardenref07_Decode.f decF
  by_cases h1 : (s.size : Int) < 8
  · rw [if_pos h1, if_pos h1]
  · rw [if_neg h1, if_neg h1]
    by_cases h2 : (s.size : Int) > 8
    · rw [if_pos h2, if_pos h2]
    · have h : (s.size : Int) = 8 := by omega
      obtain ⟨a0, a1⟩ := bt_range s 1
      obtain ⟨b0, b1⟩ := bt_range s 2
      obtain ⟨c0, c1⟩ := bt_range s 3
      obtain ⟨d0, d1⟩ := bt_range s 4
      obtain ⟨f0, f1⟩ := bt_range s 5
      obtain ⟨g0, g1⟩ := bt_range s 6
      obtain ⟨i0, i1⟩ := bt_range s 7
      have hl2 : 0 ≤ le2 s ∧ le2 s < 65536 := by unfold le2; omega
      have hl4 : 0 ≤ le4 s ∧ le4 s < 4294967296 := by unfold le4; omega
      rw [if_neg h2, if_neg h2, rget_2 (k + 2) s h, bsome, rget_4 k s h, bsome, if_pos (by omega), if_pos (by omega), rSign_2 k _ hl2.1 hl2.2, bsome, rSign_4 k _ hl4.1 hl4.2, bsome]
      rw [Int.tmod_eq_emod_of_nonneg a0, Int.tdiv_eq_ediv_of_nonneg a0, show bt s 1 / 16 % 256 = bt s 1 / 16 by omega]
      have w1 : IntKind.i16.wrap (if le2 s / 256 ≥ 128 then le2 s - 65536 else le2 s) = IntKind.i16.wrap (le2 s) := by
        rw [wrap_i16, wrap_i16]
        split <;> omega
      have w2 : wrap32 (if le4 s / 16777216 ≥ 128 then le4 s - 4294967296 else le4 s) = wrap32 (le4 s) := by
        unfold wrap32
        split <;> omega
      rw [w1, w2]
end Go.Proofs.Ytibghcmkmbamjaa.PI
