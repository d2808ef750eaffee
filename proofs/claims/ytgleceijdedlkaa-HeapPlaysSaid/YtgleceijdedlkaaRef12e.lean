/- The document's answer for the slab: Write. -/
import Derived.Test.YtgleceijdedlkaaRef12d
import Derived.Test.YtgleceijdedlkaaRef13b
namespace Go.Proofs.Ytgleceijdedlkaa
set_option linter.unusedSectionVars false
set_option linter.unusedVariables false
set_option linter.unusedSimpArgs false
open Go.RowKit
theorem zero101 (w : World) : (zeroValue 101).run Try.prog w = .ok (.agg #[.int .i64 0, .string ByteArray.empty]) w := by kernel_rfl
section
variable {w0 w : World} {K : List (Nat × Obj)} {T : Res} [Good T] {r : Nat} {room : Int} {vL : Value} {l : List (Int × List UInt8)}
set_option maxRecDepth 100000 in
set_option maxHeartbeats 4000000 in
theorem uWrite_none (H : SepK w0 w K (star (rowR 101 2 vL (l.map encT)) T)) (hK : (r, tblk room vL) ∈ K) (s at_ : Int) (t : ByteArray) (hat : posT l s = -1) (hl : l.length ≤ 10000) :
    Calls Try.prog 79 #[.pointer (some ⟨r, 0, none⟩), .int .i64 s, .int .i64 at_, .string t] w fun e w' => e = .returned (.int .i64 5) ∧ w = w' := by
  have y : decide (posT l s < 0) = true := decide_eq_true (by omega)
  go_enter Try.func79, Try.ntmps79
  go_wp2_with (go_at_call 58; refine (uAt H hK s (by omega)).mono ?_; rintro e w1 ⟨rfl, rfl⟩)
  go_ret
  exact ⟨rfl, rfl⟩
set_option maxRecDepth 100000 in
set_option maxHeartbeats 4000000 in
theorem uWrite_bad (H : SepK w0 w K (star (rowR 101 2 vL (l.map encT)) T)) (hK : (r, tblk room vL) ∈ K) (s at_ : Int) (t : ByteArray) (k : Nat) (q : Int × List UInt8) (hq : l[k]? = some q) (hat : posT l s = (k : Int)) (hb : q.2.length ≤ 1000) (hf : ¬ fits q.2.length at_ t.size) (hl : l.length ≤ 10000) :
    Calls Try.prog 79 #[.pointer (some ⟨r, 0, none⟩), .int .i64 s, .int .i64 at_, .string t] w fun e w' => e = .returned (.int .i64 120) ∧ SepK w0 w' K (star (rowR 101 2 vL (l.map encT)) T) := by
  have hkl := (List.getElem?_eq_some_iff.1 hq).1
  obtain ⟨A, c, rfl, hr, -⟩ := H.parts
  rw [List.length_map] at H
  have fr := H.blk hK
  have c0 := cell_of fr 1
  have lt := lt_of_heap fr
  simp only [List.getElem?_toArray, List.getElem?_cons_zero, List.getElem?_cons_succ, List.length_map] at c0
  obtain ⟨b, off, rfl, k0, k1⟩ := rowcellT hr hq
  have hsz : ((bstr q.2).size : Int) = (q.2.length : Int) := by rw [bstr_size]
  have e1 : (0 : Int) ≤ (k : Int) := by omega
  have e2 : (k : Int) < (l.length : Int) := by omega
  rw [List.length_map] at hK
  clear hr fr
  have hz := zero101
  go_enter Try.func79, Try.ntmps79
  go_wp2_with (first | (go_at_call 58; refine (uAt H hK s (by omega)).mono ?_; rw [hat]; rintro e w1 ⟨rfl, rfl⟩) | (go_at_call 84; refine (uFits q.2.length at_ _ hb _).mono ?_; rw [decide_eq_false hf]; rintro e w1 ⟨rfl, rfl⟩))
  go_ret
  rw [List.length_map]
  exact ⟨rfl, (H.alloc (.cells #[.int .i64 q.1, .string (bstr q.2)] 101)).drop K (fun p hp => List.mem_cons_of_mem _ hp)⟩
set_option maxRecDepth 100000 in
set_option maxHeartbeats 4000000 in
theorem uWrite_ok (H : SepK w0 w K (star (rowR 101 2 vL (l.map encT)) T)) (hK : (r, tblk room vL) ∈ K) (s : Int) (at_ : Nat) (t : ByteArray) (k : Nat) (q : Int × List UInt8) (hq : l[k]? = some q) (hat : posT l s = (k : Int)) (hb : q.2.length ≤ 1000) (hf : at_ + t.size ≤ q.2.length) (hl : l.length ≤ 10000) :
    Calls Try.prog 79 #[.pointer (some ⟨r, 0, none⟩), .int .i64 s, .int .i64 (at_ : Int), .string t] w fun e w' => e = .returned (.int .i64 0) ∧ SepK w0 w' K (star (rowR 101 2 vL ((l.set k (q.1, over q.2 at_ t.data.toList)).map encT)) T) := by
  have hkl := (List.getElem?_eq_some_iff.1 hq).1
  obtain ⟨A, c, rfl, hr, -⟩ := H.parts
  rw [List.length_map] at H
  have fr := H.blk hK
  have c0 := cell_of fr 1
  have lt := lt_of_heap fr
  simp only [List.getElem?_toArray, List.getElem?_cons_zero, List.getElem?_cons_succ, List.length_map] at c0
  obtain ⟨b, off, rfl, k0, k1⟩ := rowcellT hr hq
  obtain ⟨N, hN⟩ := H.get
  obtain ⟨rfl, -, ff, -⟩ := rowR_set2 hN (i := k) (by simpa using hkl) (.int .i64 q.1) (.string (bstr (over q.2 at_ t.data.toList)))
  have f1 := ff (k * 2)
  have f2 := ff (k * 2 + 1)
  simp only [Nat.zero_add] at k0 k1
  have lb := cell_lt' k0
  clear ff hN
  have hsz : ((bstr q.2).size : Int) = (q.2.length : Int) := by rw [bstr_size]
  have e1 : (0 : Int) ≤ (k : Int) := by omega
  have e2 : (k : Int) < (l.length : Int) := by omega
  have hft : fits q.2.length (at_ : Int) (t.size : Int) := ⟨by omega, by omega, by omega, by omega⟩
  rw [List.length_map] at hK
  clear hr fr
  have hz := zero101
  have hs1 : ∀ w', (Instr.slice 9 (.string (bstr q.2)) none (some (.int .i64 (at_ : Int))) none).run Try.prog w' = .ok (.string (bstr (q.2.take at_))) w' := fun w' => by
    rw [run_slice_string_h w' 9 (bstr q.2) Try.underlying9 .i64 _ (by omega) (by omega), bstr_extract]
    simp
  have hs2 : ∀ w', (Instr.slice 9 (.string (bstr q.2)) (some (.int .i64 ((at_ : Int) + (t.size : Int)))) none none).run Try.prog w' = .ok (.string (bstr (q.2.drop (at_ + t.size)))) w' := fun w' => by
    rw [run_slice_string_l w' 9 (bstr q.2) Try.underlying9 .i64 _ (by omega) (by omega), bstr_extract, bstr_size, List.take_of_length_le (by simp)]
    congr 4
  have htl : t.data.toList.length = t.size := rfl
  have yw : IntKind.i64.wrap ((at_ : Int) + (t.size : Int)) = (at_ : Int) + (t.size : Int) := IntWalk.i64_in _ (by omega)
  have hbt : bstr t.data.toList = t := bstr_data t
  have ha1 : ∀ w', (Op.stringOp .add (bstr (q.2.take at_)) t).run Try.prog w' = .ok (.string (bstr (q.2.take at_ ++ t.data.toList))) w' := fun w' => by
    rw [run_string_add_if, if_neg (by rw [bstr_size]; simp; omega), ← bstr_append, hbt]
  have ha2 : ∀ w', (Op.stringOp .add (bstr (q.2.take at_ ++ t.data.toList)) (bstr (q.2.drop (at_ + t.size)))).run Try.prog w' = .ok (.string (bstr (over q.2 at_ t.data.toList))) w' := fun w' => by
    rw [run_string_add_if, if_neg (by rw [bstr_size, bstr_size]; simp; omega), bstr_append]
    rfl
  go_enter Try.func79, Try.ntmps79
  go_wp2_with (first | (go_at_call 58; refine (uAt H hK s (by omega)).mono ?_; rw [hat]; rintro e w1 ⟨rfl, rfl⟩) | (go_at_call 84; refine (uFits q.2.length _ _ hb _).mono ?_; rw [decide_eq_true hft]; rintro e w1 ⟨rfl, rfl⟩))
  have h2 := (H.alloc (.cells #[.int .i64 q.1, .string (bstr q.2)] 101)).upd (Upd.refl [] _).drew
  refine still_tail 15 (by kernel_rfl) (by kernel_rfl) ?_
  simp only [List.take_succ_cons, List.take_zero, List.drop_succ_cons, List.drop_zero]
  repeat still_step
  refine wpStill_nil ?_
  go_wp2_with fail
  refine still_tail 7 (by kernel_rfl) (by kernel_rfl) ?_
  simp only [List.take_succ_cons, List.take_zero, List.drop_succ_cons, List.drop_zero]
  repeat still_step
  refine wpStill_nil ?_
  go_wp2_with fail
  go_ret
  have h3 := (((H.set2 (i := k) (by simpa using hkl) (.int .i64 q.1) (.string (bstr (over q.2 at_ t.data.toList)))).alloc (.cells #[.int .i64 q.1, .string (bstr (over q.2 at_ t.data.toList))] 101)).upd (Upd.refl [] _).drew).upd (Upd.refl [] _).drew
  have e3 : (l.set k (q.1, over q.2 at_ t.data.toList)).map encT = (l.map encT).set k [.int .i64 q.1, .string (bstr (over q.2 at_ t.data.toList))] := by rw [List.map_set]; rfl
  rw [e3, List.length_map]
  exact ⟨rfl, h3.drop K (fun p hp => List.mem_cons_of_mem _ hp)⟩
end
end Go.Proofs.Ytgleceijdedlkaa
