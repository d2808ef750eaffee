/- The document's answer for the slab: Give, Fits, Read. -/
import Derived.Test.YtgleceijdedlkaaRef12c
namespace Go.Proofs.Ytgleceijdedlkaa
set_option linter.unusedSectionVars false
set_option linter.unusedVariables false
set_option linter.unusedSimpArgs false
open Go.RowKit
theorem bstr_extract (l : List UInt8) (a b : Nat) : (bstr l).extract a b = bstr ((l.drop a).take (b - a)) := by
  apply ByteArray.ext
  simp [bstr, ByteArray.data_extract]
theorem bstr_append (a b : List UInt8) : bstr a ++ bstr b = bstr (a ++ b) := by
  apply ByteArray.ext
  simp [bstr, ByteArray.data_append]
theorem delLenT (l : List (Int × List UInt8)) (k : Nat) (hk : k < l.length) : (List.take k (l.map encT) ++ List.drop (k + 1) (l.map encT)).length = l.length - 1 := by
  simp
  omega
theorem uFits (len : Nat) (at_ n : Int) (hl : len ≤ 1000) (w : World) :
    Calls Try.prog 84 #[.int .i64 (len : Int), .int .i64 at_, .int .i64 n] w fun e w' => e = .returned (.bool (decide (fits len at_ n))) ∧ w = w' := by
  by_cases h1 : 0 ≤ at_
  · have y1 : decide (0 ≤ at_) = true := decide_eq_true h1
    by_cases h2 : 0 ≤ n
    · have y2 : decide (0 ≤ n) = true := decide_eq_true h2
      by_cases h3 : at_ ≤ (len : Int)
      · have y3 : decide (at_ ≤ (len : Int)) = true := decide_eq_true h3
        have yw : IntKind.i64.wrap ((len : Int) - at_) = (len : Int) - at_ := IntWalk.i64_in _ (by omega)
        have e : decide (fits len at_ n) = decide (n ≤ (len : Int) - at_) := decide_eq_decide.2 ⟨fun h => h.2.2.2, fun h => ⟨h1, h2, h3, h⟩⟩
        rw [e]
        clear e
        go_enter Try.func84, Try.ntmps84
        go_wp2_with fail
        go_ret
        exact ⟨rfl, rfl⟩
      · have y3 : decide (at_ ≤ (len : Int)) = false := decide_eq_false h3
        have e : decide (fits len at_ n) = false := decide_eq_false fun h => h3 h.2.2.1
        rw [e]
        clear e
        go_enter Try.func84, Try.ntmps84
        go_wp2_with fail
        go_ret
        exact ⟨rfl, rfl⟩
    · have y2 : decide (0 ≤ n) = false := decide_eq_false h2
      have e : decide (fits len at_ n) = false := decide_eq_false fun h => h2 h.2.1
      rw [e]
      clear e
      go_enter Try.func84, Try.ntmps84
      go_wp2_with fail
      go_ret
      exact ⟨rfl, rfl⟩
  · have y1 : decide (0 ≤ at_) = false := decide_eq_false h1
    have e : decide (fits len at_ n) = false := decide_eq_false fun h => h1 h.1
    rw [e]
    clear e
    go_enter Try.func84, Try.ntmps84
    go_wp2_with fail
    go_ret
    exact ⟨rfl, rfl⟩
section
variable {w0 w : World} {K : List (Nat × Obj)} {T : Res} [Good T] {r : Nat} {room : Int} {vL : Value} {l : List (Int × List UInt8)}
set_option maxRecDepth 100000 in
set_option maxHeartbeats 4000000 in
theorem uGive_no (H : SepK w0 w K (star (rowR 101 2 vL (l.map encT)) T)) (hK : (r, tblk room vL) ∈ K) (s : Int) (hat : posT l s = -1) (hl : l.length ≤ 10000) :
    Calls Try.prog 77 #[.pointer (some ⟨r, 0, none⟩), .int .i64 s] w fun e w' => e = .returned (.int .i64 5) ∧ w = w' := by
  have y : decide (posT l s < 0) = true := decide_eq_true (by omega)
  go_enter Try.func77, Try.ntmps77
  go_wp2_with (go_at_call 58; refine (uAt H hK s (by omega)).mono ?_; rintro e w1 ⟨rfl, rfl⟩)
  go_ret
  exact ⟨rfl, rfl⟩
set_option maxRecDepth 100000 in
set_option maxHeartbeats 8000000 in
theorem uGive_ok (H : SepK w0 w ((r, tblk room vL) :: K) (star (rowR 101 2 vL (l.map encT)) T)) (hKr : ∀ p ∈ K, p.1 ≠ r) (s : Int) (k : Nat) (hkl : k < l.length) (hat : posT l s = (k : Int)) (hl : l.length ≤ 10000) :
    Calls Try.prog 77 #[.pointer (some ⟨r, 0, none⟩), .int .i64 s] w fun e w' => ∃ vL', e = .returned (.int .i64 0) ∧ SepK w0 w' ((r, tblk room vL') :: K) (star (rowR 101 2 vL' ((l.take k ++ l.drop (k + 1)).map encT)) T) := by
  go_enter Try.func77, Try.ntmps77
  go_wp2_with fail
  refine (uAt H List.mem_cons_self s (by omega)).mono ?_
  rintro e w2 ⟨rfl, rfl⟩
  rw [hat]
  clear hat
  obtain ⟨A, c, rfl, hr, hlc, hcm, hcA⟩ := H.parts
  rw [List.length_map] at hlc H
  have fr := H.blk List.mem_cons_self
  have c0 := cell_of fr 1
  have lt := lt_of_heap fr
  simp only [List.getElem?_toArray, List.getElem?_cons_zero, List.getElem?_cons_succ] at c0
  clear fr
  have pt := part_take (m := k) hr (by simp; omega) hcA
  obtain ⟨Ad, hAd⟩ : ∃ Ad, Ad = (if c = k + 1 then A else A.map fun a => a.add ((k + 1) * 2)) := ⟨_, rfl⟩
  have H5 := H.row0 101 2
  obtain ⟨i0, hi0, hz0, hz1, hz2⟩ := info_parts info101
  have hrt := (trows (l.take k))
  rw [List.map_take] at hrt
  have hrd := (trows (l.drop (k + 1)))
  rw [List.map_drop] at hrd
  have e1 : (0 : Int) ≤ (k : Int) := by omega
  have e2 : (k : Int) ≤ (c : Int) := by omega
  have e3 : (k : Int) ≤ (l.length : Int) := by omega
  have e4 : (l.length : Int) ≤ (c : Int) := by omega
  have e5 : (k : Int) + 1 ≤ (l.length : Int) := by omega
  have hsl : ∀ w', (Instr.slice 94 (.slice A l.length c) (some (.int .i64 ((k : Int) + 1))) none none).run Try.prog w' = .ok (.slice Ad (l.length - (k + 1)) (c - (k + 1))) w' := fun w' => by
    rw [hAd]
    have e6 : ((k : Int) + 1) = ((k + 1 : Nat) : Int) := by omega
    rw [e6]
    have e7 : ((k + 1 : Nat) : Int) ≤ (l.length : Int) := by omega
    have e8 : (0 : Int) ≤ ((k + 1 : Nat) : Int) := by omega
    generalize k + 1 = m at e7 e8 ⊢
    by_cases hck : c = m
    · subst hck
      go_simp
    · have : ¬ m = c := fun e => hck e.symm
      go_simp
  have hAH : Unit → Ad = (if c = k + 1 then A else A.map fun a => a.add ((k + 1) * 2)) := fun _ => hAd
  clear hAd hr
  go_wp2_with (first
    | (at_builtin; refine wl_part rfl (.tmp 12) (.tmp 18) 94 rfl 101 i0 (.agg #[.int .i64 0, .string ByteArray.empty]) 2 24 Try.underlying94 hi0 hz0 hz1 hz2 rfl (by decide) (.slice none 0 0) [] rfl H5 (.slice A k c) ((l.map encT).take k) rfl pt hrt.1 hrt.2 (by unfold maxLen; simp; omega) (by simp; omega) ?_; intro v1 w4 h6; rw [List.nil_append] at h6; have fr5 := h6.blk (b := r) List.mem_cons_self; have c05 := cell_of fr5 1; have lt5 := lt_of_heap fr5; simp only [List.getElem?_toArray, List.getElem?_cons_zero, List.getElem?_cons_succ] at c05; obtain ⟨hd1, hd2, hd3⟩ := h6.swap.partDT; have pd5 := part_drop (m := k + 1) hd1 (by simp; omega) hd2 hd3; rw [List.length_map, ← hAH ()] at pd5; clear hd1 hd2 hd3)
    | (at_builtin; refine wl_part rfl (.tmp 21) (.tmp 28) 94 rfl 101 i0 (.agg #[.int .i64 0, .string ByteArray.empty]) 2 24 Try.underlying94 hi0 hz0 hz1 hz2 rfl (by decide) _ _ rfl h6 _ ((l.map encT).drop (k + 1)) rfl pd5 hrd.1 hrd.2 (by unfold maxLen; simp; omega) (by simp; omega) ?_; intro v3 w6 h9; obtain ⟨A9, c9, rfl, hr9⟩ := h9.row; clear hr9; rw [delLenT l k hkl] at h9 ⊢; have fr6 := h9.blk (b := r) List.mem_cons_self; have c06 := cell_of fr6 1; have ff6 := frozen_of fr6 1; have lt6 := lt_of_heap fr6; simp only [List.getElem?_toArray, List.getElem?_cons_zero, List.getElem?_cons_succ] at c06))
  have h10 := h9.set (o' := tblk room (.slice A9 (l.length - 1) c9)) ((Upd.refl [r] w6).setCell ⟨r, 1, none⟩ (.slice A9 (l.length - 1) c9) (.inl (by simp))) (by simpa [tblk] using heap_setCell_same fr6 1 _) hKr
  go_ret
  refine ⟨.slice A9 (l.length - 1) c9, rfl, ?_⟩
  have e9 : (l.take k ++ l.drop (k + 1)).map encT = List.take k (l.map encT) ++ List.drop (k + 1) (l.map encT) := by simp
  rw [e9]
  exact h10.imp fun _ g => star_imp g fun _ g => star_tail g
set_option maxRecDepth 100000 in
set_option maxHeartbeats 4000000 in
theorem uRead_none (H : SepK w0 w K (star (rowR 101 2 vL (l.map encT)) T)) (hK : (r, tblk room vL) ∈ K) (s at_ n : Int) (hat : posT l s = -1) (hl : l.length ≤ 10000) :
    Calls Try.prog 78 #[.pointer (some ⟨r, 0, none⟩), .int .i64 s, .int .i64 at_, .int .i64 n] w fun e w' => e = .returned (.tuple #[.string ByteArray.empty, .int .i64 5]) ∧ w = w' := by
  have y : decide (posT l s < 0) = true := decide_eq_true (by omega)
  go_enter Try.func78, Try.ntmps78
  go_wp2_with (go_at_call 58; refine (uAt H hK s (by omega)).mono ?_; rintro e w1 ⟨rfl, rfl⟩)
  refine bodyPost_ret (v := .tuple #[.string ByteArray.empty, .int .i64 5]) (by simp [results, Try.results78, go_sem]; rfl) rfl ⟨rfl, rfl⟩
set_option maxRecDepth 100000 in
set_option maxHeartbeats 4000000 in
theorem uRead_bad (H : SepK w0 w K (star (rowR 101 2 vL (l.map encT)) T)) (hK : (r, tblk room vL) ∈ K) (s at_ n : Int) (k : Nat) (q : Int × List UInt8) (hq : l[k]? = some q) (hat : posT l s = (k : Int)) (hb : q.2.length ≤ 1000) (hf : ¬ fits q.2.length at_ n) (hl : l.length ≤ 10000) :
    Calls Try.prog 78 #[.pointer (some ⟨r, 0, none⟩), .int .i64 s, .int .i64 at_, .int .i64 n] w fun e w' => e = .returned (.tuple #[.string ByteArray.empty, .int .i64 120]) ∧ w = w' := by
  have hkl := (List.getElem?_eq_some_iff.1 hq).1
  obtain ⟨A, c, rfl, hr, -⟩ := H.parts
  rw [List.length_map] at H
  have fr := H.blk hK
  have c0 := cell_of fr 1
  have lt := lt_of_heap fr
  simp only [List.getElem?_toArray, List.getElem?_cons_zero, List.getElem?_cons_succ, List.length_map] at c0
  obtain ⟨b, off, rfl, k0, k1⟩ := rowcellT hr hq
  have hsz : ((bstr q.2).size : Int) = (q.2.length : Int) := by rw [bstr_size]
  have e1 : (0 : Int) ≤ (k : Int) := by omega
  have e2 : (k : Int) < (l.length : Int) := by omega
  rw [List.length_map] at hK
  clear hr fr
  go_enter Try.func78, Try.ntmps78
  go_wp2_with (first | (go_at_call 58; refine (uAt H hK s (by omega)).mono ?_; rw [hat]; rintro e w1 ⟨rfl, rfl⟩) | (go_at_call 84; refine (uFits q.2.length at_ n hb _).mono ?_; rw [decide_eq_false hf]; rintro e w1 ⟨rfl, rfl⟩))
  refine bodyPost_ret (v := .tuple #[.string ByteArray.empty, .int .i64 120]) (by simp [results, Try.results78, go_sem]; rfl) rfl ⟨rfl, rfl⟩
set_option maxRecDepth 100000 in
set_option maxHeartbeats 4000000 in
theorem uRead_ok (H : SepK w0 w K (star (rowR 101 2 vL (l.map encT)) T)) (hK : (r, tblk room vL) ∈ K) (s : Int) (at_ n : Nat) (k : Nat) (q : Int × List UInt8) (hq : l[k]? = some q) (hat : posT l s = (k : Int)) (hb : q.2.length ≤ 1000) (hf : at_ + n ≤ q.2.length) (hl : l.length ≤ 10000) :
    Calls Try.prog 78 #[.pointer (some ⟨r, 0, none⟩), .int .i64 s, .int .i64 (at_ : Int), .int .i64 (n : Int)] w fun e w' => e = .returned (.tuple #[.string (bstr ((q.2.drop at_).take n)), .int .i64 0]) ∧ w = w' := by
  have hkl := (List.getElem?_eq_some_iff.1 hq).1
  obtain ⟨A, c, rfl, hr, -⟩ := H.parts
  rw [List.length_map] at H
  have fr := H.blk hK
  have c0 := cell_of fr 1
  have lt := lt_of_heap fr
  simp only [List.getElem?_toArray, List.getElem?_cons_zero, List.getElem?_cons_succ, List.length_map] at c0
  obtain ⟨b, off, rfl, k0, k1⟩ := rowcellT hr hq
  have hsz : ((bstr q.2).size : Int) = (q.2.length : Int) := by rw [bstr_size]
  have e1 : (0 : Int) ≤ (k : Int) := by omega
  have e2 : (k : Int) < (l.length : Int) := by omega
  have hft : fits q.2.length (at_ : Int) (n : Int) := ⟨by omega, by omega, by omega, by omega⟩
  have hsl : ∀ w', (Instr.slice 9 (.string (bstr q.2)) (some (.int .i64 (at_ : Int))) (some (.int .i64 ((at_ : Int) + (n : Int)))) none).run Try.prog w' = .ok (.string (bstr ((q.2.drop at_).take n))) w' := fun w' => by
    rw [run_slice_string w' 9 (bstr q.2) .i64 .i64 _ _ Try.underlying9 (by omega) (by omega) (by omega), bstr_extract]
    congr 4
    omega
  rw [List.length_map] at hK
  clear hr fr
  go_enter Try.func78, Try.ntmps78
  go_wp2_with (first | (go_at_call 58; refine (uAt H hK s (by omega)).mono ?_; rw [hat]; rintro e w1 ⟨rfl, rfl⟩) | (go_at_call 84; refine (uFits q.2.length _ _ hb _).mono ?_; rw [decide_eq_true hft]; rintro e w1 ⟨rfl, rfl⟩))
  refine bodyPost_ret (v := .tuple #[.string (bstr ((q.2.drop at_).take n)), .int .i64 0]) (by simp [results, Try.results78, go_sem]) rfl ⟨rfl, rfl⟩
end
end Go.Proofs.Ytgleceijdedlkaa
