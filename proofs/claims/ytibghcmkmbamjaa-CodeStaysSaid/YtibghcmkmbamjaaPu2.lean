/- An instruction's bytes: the program's words. -/
import Derived.Test.YtibghcmkmbamjaaPu0
import Derived.Test.YtibghcmkmbamjaaPu1
import Derived.Test.YtibghcmkmbamjaaPIx2
import Derived.Test.YtibghcmkmbamjaaPIx3
namespace Go.Proofs.Ytibghcmkmbamjaa.PI
open Go.RowKit Go.Proofs.YtibghcmkmbamjaaW.PrintWords Go.Proofs.YtibghcmkmbamjaaW.PrintLast Go.Proofs.YtibghcmkmbamjaaW.PrintMore
set_option linter.unusedVariables false
set_option linter.unusedSimpArgs false
/-- The bytes of an instruction. -/
def encL (op D S O M : Int) : List Int := [op, D % 16 + S % 16 * 16, O % 256, O / 256 % 256, M % 256, M / 256 % 256, M / 65536 % 256, M / 16777216 % 256]
def le2 (s : ByteArray) : Int := bt s 2 + bt s 3 * 256
def le4 (s : ByteArray) : Int := bt s 4 + bt s 5 * 256 + bt s 6 * 65536 + bt s 7 * 16777216
theorem shl_0 (b : Int) (h0 : 0 ≤ b) (h1 : b ≤ 255) : shl .u64 (IntKind.u64.wrap b) 0 = b := by
  unfold shl
  rw [wrap_u64_in b h0 (by omega)]
  simp only [Int.toNat_zero, Nat.zero_min, Int.pow_zero, Int.mul_one]
  exact wrap_u64_in b h0 (by omega)
theorem shl_8 (b : Int) (h0 : 0 ≤ b) (h1 : b ≤ 255) : shl .u64 (IntKind.u64.wrap b) 8 = b * 256 := by
  unfold shl
  rw [wrap_u64_in b h0 (by omega)]
  show IntKind.u64.wrap (b * 256) = _
  exact wrap_u64_in _ (by omega) (by omega)
theorem shl_16 (b : Int) (h0 : 0 ≤ b) (h1 : b ≤ 255) : shl .u64 (IntKind.u64.wrap b) 16 = b * 65536 := by
  unfold shl
  rw [wrap_u64_in b h0 (by omega)]
  show IntKind.u64.wrap (b * 65536) = _
  exact wrap_u64_in _ (by omega) (by omega)
theorem shl_24 (b : Int) (h0 : 0 ≤ b) (h1 : b ≤ 255) : shl .u64 (IntKind.u64.wrap b) 24 = b * 16777216 := by
  unfold shl
  rw [wrap_u64_in b h0 (by omega)]
  show IntKind.u64.wrap (b * 16777216) = _
  exact wrap_u64_in _ (by omega) (by omega)
theorem get_2 (k : Nat) (s : ByteArray) (h : (s.size : Int) = 8) : word_Get.f (k + 4) s 2 2 = some (le2 s, 0) := by
  obtain ⟨a0, a1⟩ := bt_range s 2
  obtain ⟨b0, b1⟩ := bt_range s 3
  have hm : word_may.f 2 = some true := rfl
  unfold word_Get.f
  rw [hm, bsome, if_pos rfl]
  simp only [word_Get.j0, word_Get.l0, h]
  rw [if_neg (by decide +kernel), if_neg (by decide +kernel), if_neg (by decide +kernel), if_pos (by decide +kernel), if_pos (by decide +kernel), if_pos (by decide +kernel), if_pos (by decide +kernel), if_pos (by decide +kernel), if_pos (by decide +kernel), if_pos (by decide +kernel), if_pos (by decide +kernel), if_neg (by decide +kernel)]
  have e0 : wrap64 (2 + 0) = 2 := by decide +kernel
  have e1 : wrap64 (8 * 0) = 0 := by decide +kernel
  have e2 : wrap64 (0 + 1) = 1 := by decide +kernel
  have e3 : wrap64 (2 + 1) = 3 := by decide +kernel
  have e4 : wrap64 (8 * 1) = 8 := by decide +kernel
  simp only [e0, e1, e2, e3, e4, shl_0 _ a0 a1, shl_8 _ b0 b1, or_0 _ a0 a1]
  rw [or_8 _ _ a0 (by omega) b0 b1]
  rfl
theorem get_4 (k : Nat) (s : ByteArray) (h : (s.size : Int) = 8) : word_Get.f (k + 6) s 4 4 = some (le4 s, 0) := by
  obtain ⟨a0, a1⟩ := bt_range s 4
  obtain ⟨b0, b1⟩ := bt_range s 5
  obtain ⟨c0, c1⟩ := bt_range s 6
  obtain ⟨d0, d1⟩ := bt_range s 7
  have hm : word_may.f 4 = some true := rfl
  unfold word_Get.f
  rw [hm, bsome, if_pos rfl]
  simp only [word_Get.j0, word_Get.l0, h]
  rw [if_neg (by decide +kernel), if_neg (by decide +kernel), if_neg (by decide +kernel)]
  rw [if_pos (by decide +kernel), if_pos (by decide +kernel), if_pos (by decide +kernel), if_pos (by decide +kernel)]
  rw [if_pos (by decide +kernel), if_pos (by decide +kernel), if_pos (by decide +kernel), if_pos (by decide +kernel)]
  rw [if_pos (by decide +kernel), if_pos (by decide +kernel), if_pos (by decide +kernel), if_pos (by decide +kernel)]
  rw [if_pos (by decide +kernel), if_pos (by decide +kernel), if_pos (by decide +kernel), if_pos (by decide +kernel), if_neg (by decide +kernel)]
  have e0 : wrap64 (4 + 0) = 4 := by decide +kernel
  have e1 : wrap64 (8 * 0) = 0 := by decide +kernel
  have e2 : wrap64 (0 + 1) = 1 := by decide +kernel
  have e3 : wrap64 (4 + 1) = 5 := by decide +kernel
  have e4 : wrap64 (8 * 1) = 8 := by decide +kernel
  have e5 : wrap64 (1 + 1) = 2 := by decide +kernel
  have e6 : wrap64 (4 + 2) = 6 := by decide +kernel
  have e7 : wrap64 (8 * 2) = 16 := by decide +kernel
  have e8 : wrap64 (2 + 1) = 3 := by decide +kernel
  have e9 : wrap64 (4 + 3) = 7 := by decide +kernel
  have e10 : wrap64 (8 * 3) = 24 := by decide +kernel
  simp only [e0, e1, e2, e3, e4, e5, e6, e7, e8, e9, e10, shl_0 _ a0 a1, shl_8 _ b0 b1, shl_16 _ c0 c1, shl_24 _ d0 d1, or_0 _ a0 a1]
  rw [or_8 _ _ a0 (by omega) b0 b1, or_16 _ _ (by omega) (by omega) c0 c1, or_24 _ _ (by omega) (by omega) d0 d1]
  rfl
/-- What a text of bytes tells. -/
def decF (s : ByteArray) : Int × Int × Int × Int × Int × Int :=
  if (s.size : Int) < 8 then (0, 0, 0, 0, 0, 10) else if (s.size : Int) > 8 then (0, 0, 0, 0, 0, 4) else (bt s 0, bt s 1 % 16, bt s 1 / 16, IntKind.i16.wrap (le2 s), wrap32 (le4 s), 0)
theorem Decode_eq (k : Nat) (s : ByteArray) : insn_Decode.f (k + 6) s = some (decF s) := by
  unfold insn_Decode.f decF
  by_cases h1 : (s.size : Int) < 8
  · rw [if_pos h1, if_pos h1]
  · rw [if_neg h1, if_neg h1]
    by_cases h2 : (s.size : Int) > 8
    · rw [if_pos h2, if_pos h2]
    · have h : (s.size : Int) = 8 := by omega
      obtain ⟨b0, b1⟩ := bt_range s 1
      rw [if_neg h2, if_neg h2, get_2 (k + 2) s h, bsome, get_4 k s h, bsome, if_pos (by omega), if_pos (by omega), and15 _ b0 (by omega)]
theorem Of_2 (k : Nat) (x : Int) : word_Of.f k x 2 = some (strOfNums [x % 256, x / 256 % 256]) := by
  have hm : word_may.f 2 = some true := rfl
  unfold word_Of.f
  rw [hm, bsome, if_pos rfl]
  have : (List.range (2 : Int).toNat).map (ofB x) = [x % 256, x / 256 % 256] := by
    show [ofB x 0, ofB x 1] = _
    simp [ofB]
  rw [this]
theorem Of_4 (k : Nat) (x : Int) : word_Of.f k x 4 = some (strOfNums [x % 256, x / 256 % 256, x / 65536 % 256, x / 16777216 % 256]) := by
  have hm : word_may.f 4 = some true := rfl
  unfold word_Of.f
  rw [hm, bsome, if_pos rfl]
  have : (List.range (4 : Int).toNat).map (ofB x) = [x % 256, x / 256 % 256, x / 65536 % 256, x / 16777216 % 256] := by
    show [ofB x 0, ofB x 1, ofB x 2, ofB x 3] = _
    simp [ofB]
  rw [this]
theorem byte1 (D S : Int) (h0 : 0 ≤ D) (h1 : D ≤ 255) (g0 : 0 ≤ S) (g1 : S ≤ 255) : Go.bits .or .u8 (Go.bits .and .u8 D 15) ((S * 16) % 256) = D % 16 + S % 16 * 16 := by
  rw [and15 D h0 (by omega), show S * 16 % 256 = S % 16 * 16 by omega, or_u8 _ _ (by omega) (by omega) (by omega) (by omega)]
theorem u64_bytes (x : Int) : (IntKind.u64.wrap x) % 256 = x % 256 ∧ (IntKind.u64.wrap x) / 256 % 256 = x / 256 % 256 ∧ (IntKind.u64.wrap x) / 65536 % 256 = x / 65536 % 256 ∧ (IntKind.u64.wrap x) / 16777216 % 256 = x / 16777216 % 256 := by
  rw [wrap_u64]
  omega
theorem Encode_eq (k : Nat) (op D S O M : Int) (h0 : 0 ≤ D) (h1 : D ≤ 255) (g0 : 0 ≤ S) (g1 : S ≤ 255) : insn_Encode.f k op D S O M = some (strOfNums (encL op D S O M)) := by
  unfold insn_Encode.f
  obtain ⟨o1, o2, -, -⟩ := u64_bytes O
  obtain ⟨m1, m2, m3, m4⟩ := u64_bytes M
  rw [bsome, Of_2, bsome, Of_4, bsome, byte1 D S h0 h1 g0 g1, o1, o2, m1, m2, m3, m4]
  simp only [strs_append, strOfNums_size]
  rw [if_pos (by simp), if_pos (by simp)]
  rfl
end Go.Proofs.Ytibghcmkmbamjaa.PI
