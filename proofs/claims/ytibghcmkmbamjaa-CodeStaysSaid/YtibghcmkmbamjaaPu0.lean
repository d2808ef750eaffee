/- Bits of whole numbers, bytes of texts: plain words. -/
import Derived.Test.YtibghcmkmbamjaaGPI
import Derived.Laws.BitsLemmas
namespace Go.Proofs.Ytibghcmkmbamjaa.PI
open Go.RowKit Go.Proofs.YtibghcmkmbamjaaW.PrintWords Go.Proofs.YtibghcmkmbamjaaW.PrintLast Go.Proofs.YtibghcmkmbamjaaW.PrintMore
set_option linter.unusedVariables false
set_option linter.unusedSimpArgs false
theorem wrap_u64 (n : Int) : IntKind.u64.wrap n = n % 18446744073709551616 := by simp [IntKind.wrap, IntKind.bits, IntKind.signed]
theorem wrap_u64_in (n : Int) (h0 : 0 ≤ n) (h1 : n < 18446744073709551616) : IntKind.u64.wrap n = n := by
  rw [wrap_u64]
  omega
theorem wrap_i16 (n : Int) : IntKind.i16.wrap n = (n + 32768) % 65536 - 32768 := by
  simp only [IntKind.wrap, IntKind.bits, IntKind.signed]
  simp
  split <;> omega
theorem or_comm64 (x y : Int) : Go.bits .or .u64 x y = Go.bits .or .u64 y x := by
  simp only [Go.bits, BitVec.or_comm]
theorem or_low (i : Nat) (hi : i ≤ 24) (x y : Int) (hx0 : 0 ≤ x) (hx1 : x < 2 ^ i) (hy0 : 0 ≤ y) (hy : y % 2 ^ i = 0) (hy1 : y < 2 ^ 40) : Go.bits .or .u64 x y = x + y := by
  have hp : (2 : Int) ^ i ≤ 2 ^ 40 := by exact_mod_cast Nat.pow_le_pow_right (n := 2) (by decide) (show i ≤ 40 by omega)
  have := bits_join .u64 40 (by decide) (fun n h0 h1 => wrap_u64_in n h0 (by omega)) i y x hy0 hy hy1 hx0 hx1 (by omega)
  rw [or_comm64, this]
  omega
theorem or_8 (x b : Int) (hx0 : 0 ≤ x) (hx1 : x < 256) (hb0 : 0 ≤ b) (hb1 : b ≤ 255) : Go.bits .or .u64 x (b * 256) = x + b * 256 := or_low 8 (by decide) x _ hx0 (by omega) (by omega) (by omega) (by omega)
theorem or_16 (x b : Int) (hx0 : 0 ≤ x) (hx1 : x < 65536) (hb0 : 0 ≤ b) (hb1 : b ≤ 255) : Go.bits .or .u64 x (b * 65536) = x + b * 65536 := or_low 16 (by decide) x _ hx0 (by omega) (by omega) (by omega) (by omega)
theorem or_24 (x b : Int) (hx0 : 0 ≤ x) (hx1 : x < 16777216) (hb0 : 0 ≤ b) (hb1 : b ≤ 255) : Go.bits .or .u64 x (b * 16777216) = x + b * 16777216 := or_low 24 (by decide) x _ hx0 (by omega) (by omega) (by omega) (by omega)
theorem or_0 (b : Int) (hb0 : 0 ≤ b) (hb1 : b ≤ 255) : Go.bits .or .u64 0 b = b := by
  have := or_low 0 (by decide) 0 b (by decide) (by decide) hb0 (by omega) (by omega)
  omega
/-- A byte behind a number that has room for it, whatever its sign. -/
theorem or_i64 (a b : Int) (ha : -1099511627776 ≤ a ∧ a ≤ 1099511627776) (hb0 : 0 ≤ b) (hb1 : b ≤ 255) : Go.bits .or .i64 (a * 256) b = a * 256 + b := by
  have key : BitVec.ofInt 64 (a * 256) ||| BitVec.ofInt 64 b = BitVec.ofInt 64 (a * 256 + b) := by
    rw [← BitVec.add_eq_or_of_and_eq_zero]
    · exact (BitVec.ofInt_add _ _).symm
    · apply BitVec.eq_of_getLsbD_eq
      intro i hi
      rw [BitVec.getLsbD_and, BitVec.getLsbD_zero]
      by_cases h8 : i < 8
      · have : (BitVec.ofInt 64 (a * 256)).getLsbD i = false := by
          have e : BitVec.ofInt 64 (a * 256) = BitVec.ofInt 64 a <<< 8 := by
            rw [BitVec.ofInt_mul, BitVec.shiftLeft_eq_mul_twoPow]
            rfl
          rw [e, BitVec.getLsbD_shiftLeft]
          simp [h8]
        rw [this, Bool.false_and]
      · have : (BitVec.ofInt 64 b).getLsbD i = false := by
          obtain ⟨n, rfl⟩ := Int.eq_ofNat_of_zero_le hb0
          rw [BitVec.ofInt_natCast, BitVec.getLsbD_ofNat]
          have : n.testBit i = false := Nat.testBit_lt_two_pow (Nat.lt_of_lt_of_le (show n < 2 ^ 8 by omega) (Nat.pow_le_pow_right (by decide) (by omega)))
          simp [this]
        rw [this, Bool.and_false]
  show IntKind.i64.wrap (((BitVec.ofInt 64 (a * 256) ||| BitVec.ofInt 64 b).toNat : Nat) : Int) = _
  rw [key, IntKind.wrap_i64, BitVec.toNat_ofInt]
  omega
theorem and15 (x : Int) (h0 : 0 ≤ x) (h1 : x < 256) : Go.bits .and .u8 x 15 = x % 16 := u8_and15 x h0 h1
theorem or_u8 (x y : Int) (h0 : 0 ≤ x) (h1 : x < 16) (g0 : 0 ≤ y) (g1 : y < 16) : Go.bits .or .u8 x (y * 16) = x + y * 16 := by
  have h : Go.bits .or .u8 x (y * 16) = Go.bits .or .u8 (y * 16) x := by simp only [Go.bits, BitVec.or_comm]
  rw [h, bits_join .u8 8 (by decide) wraps_u8 4 (y * 16) x (by omega) (by omega) (by omega) (by omega) (by omega) (by omega)]
  omega
theorem strs_append (a b : List Int) : strOfNums a ++ strOfNums b = strOfNums (a ++ b) := by
  apply ByteArray.ext
  simp [strOfNums, ByteArray.data_append]
theorem strs_inj {a b : List Int} (ha : ∀ x ∈ a, 0 ≤ x ∧ x ≤ 255) (hb : ∀ x ∈ b, 0 ≤ x ∧ x ≤ 255) (h : strOfNums a = strOfNums b) : a = b := by
  have h1 : a.map (fun n => UInt8.ofNat n.toNat) = b.map (fun n => UInt8.ofNat n.toNat) := by
    have := congrArg (fun s : ByteArray => s.data.toList) h
    simpa [strOfNums] using this
  have back : ∀ l : List Int, (∀ x ∈ l, 0 ≤ x ∧ x ≤ 255) → (l.map (fun n => UInt8.ofNat n.toNat)).map (fun b => (b.toNat : Int)) = l := by
    intro l hl
    rw [List.map_map]
    conv => rhs; rw [← List.map_id l]
    apply List.map_congr_left
    intro x hx
    have := hl x hx
    simp [UInt8.toNat_ofNat']
    omega
  rw [← back a ha, ← back b hb, h1]
theorem bt_strs (l : List Int) (i : Nat) (x : Int) (h : l[i]? = some x) (h0 : 0 ≤ x) (h1 : x ≤ 255) : bt (strOfNums l) (i : Int) = x := by
  have hi := (List.getElem?_eq_some_iff.1 h).1
  have hx := (List.getElem?_eq_some_iff.1 h).2
  have hi' : i < (strOfNums l).size := by rw [strOfNums_size]; exact hi
  unfold bt
  rw [dif_pos (show (i : Int).toNat < (strOfNums l).size from hi')]
  have e : (strOfNums l)[(i : Int).toNat]'hi' = UInt8.ofNat (l[i]).toNat := by
    show ((l.map fun n => UInt8.ofNat n.toNat).toArray)[i]'(by rw [List.size_toArray, List.length_map]; exact hi) = _
    rw [List.getElem_toArray, List.getElem_map]
  rw [e, hx, UInt8.toNat_ofNat']
  omega
/-- A text of eight bytes. -/
theorem text8 (s : ByteArray) (h : s.size = 8) : s = strOfNums [bt s 0, bt s 1, bt s 2, bt s 3, bt s 4, bt s 5, bt s 6, bt s 7] := by
  apply ByteArray.ext
  apply Array.ext
  · show s.size = (strOfNums [bt s 0, bt s 1, bt s 2, bt s 3, bt s 4, bt s 5, bt s 6, bt s 7]).size
    rw [strOfNums_size, h]
    rfl
  · intro i h1 h2
    have key : ∀ j : Nat, (hj : j < s.size) → UInt8.ofNat (bt s (j : Int)).toNat = s.data[j] := by
      intro j hj
      unfold bt
      rw [dif_pos (by simpa using hj)]
      show UInt8.ofNat ((s.data[j].toNat : Int)).toNat = s.data[j]
      simp
    have hl : i < s.size := h1
    have hk := key i hl
    rcases (show i = 0 ∨ i = 1 ∨ i = 2 ∨ i = 3 ∨ i = 4 ∨ i = 5 ∨ i = 6 ∨ i = 7 by omega) with rfl | rfl | rfl | rfl | rfl | rfl | rfl | rfl <;> exact hk.symm
end Go.Proofs.Ytibghcmkmbamjaa.PI
