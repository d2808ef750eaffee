/- The document's example of the hash. -/
import Derived.Test.YtagjcnhgappcjaaHCall
namespace Go.Proofs.Ytagjcnhgappcjaa
open Go.RowKit
set_option linter.unusedVariables false
set_option linter.unusedSimpArgs false
abbrev kA : ByteArray := ⟨#[97, 98, 99, 100, 101, 102, 103, 104]⟩
abbrev kB : ByteArray := ⟨#[97, 98, 99, 100, 101, 102, 103, 105]⟩
set_option maxRecDepth 100000 in
set_option maxHeartbeats 2000000 in
theorem works (w : World) : Calls Try.prog 9 #[] w fun e w' => e = .returned (.bool true) ∧ Upd [] w w' := by
  have o0 : okI 0 := by unfold okI; decide
  go_enter Try.func9, Try.ntmps9
  go_wp2_with fail
  refine (hNew (SepK.start w) 8 1 (by omega) (by omega) (by omega) (by omega)).mono ?_
  rintro e w1 ⟨h, bs, bv, rfl, H1⟩
  go_wp2_with fail
  refine (hPut_new H1 (List.mem_cons_self ..) (by omega) (by omega) (by omega) (by omega) kA rfl rfl ⟨0, by omega, by simp⟩).mono ?_
  rintro e w2 ⟨i, ob, gb, rfl, hi, -, -, H2⟩
  obtain rfl : i = 0 := by omega
  simp only [List.nil_append] at H2
  go_wp2_with fail
  refine (hPut_old H2 (List.mem_cons_self ..) kA rfl 0 rfl).mono ?_
  rintro e w3 ⟨rfl, rfl⟩
  go_wp2_with fail
  refine (hPut_full H2 (List.mem_cons_self ..) (by omega) (by omega) kB rfl rfl (fun j hj => by rw [show j = 0 by omega]; simp)).mono ?_
  rintro e w3 ⟨rfl, rfl⟩
  go_wp2_with fail
  refine (hPut_no H2 (List.mem_cons_self ..) _ (by decide)).mono ?_
  rintro e w3 ⟨rfl, rfl⟩
  go_wp2_with fail
  have hI : HInv 8 1 (vsOf [((0 : Int), (ob, gb, kA, List.replicate (8 : Int).toNat (0 : UInt8)))]) := (HInv.start 8 1).put (i := 0) (key := kA) (bs := List.replicate (8 : Int).toNat 0) (by simp) rfl (by omega) (by omega) rfl (by simp)
  refine (hWrite H2 (List.mem_cons_self ..) hI (by omega) 0 o0 (v := (ob, gb, kA, List.replicate (8 : Int).toNat (0 : UInt8))) rfl 7 ⟨#[120]⟩ (by show 7 + 1 ≤ (List.replicate (8 : Int).toNat (0 : UInt8)).length; simp)).mono ?_
  rintro e w4 ⟨rfl, H4⟩
  have H5 : SepK w w4 [(h, hblk 8 1 bs bv)] (hR bs bv [((0 : Int), (ob, gb, kA, ([0, 0, 0, 0, 0, 0, 0, 120] : List UInt8)))] emp) := H4
  clear H4 H2 H1 hI
  go_wp2_with fail
  refine (hGet H5 (List.mem_cons_self ..) 0 o0 (v := (ob, gb, kA, ([0, 0, 0, 0, 0, 0, 0, 120] : List UInt8))) rfl).mono ?_
  rintro e w5 ⟨rfl, rfl⟩
  go_wp2_with fail
  refine (hKey H5 (List.mem_cons_self ..) 0 o0 (v := (ob, gb, kA, ([0, 0, 0, 0, 0, 0, 0, 120] : List UInt8))) rfl).mono ?_
  rintro e w5 ⟨rfl, rfl⟩
  go_wp2_with fail
  have hI : HInv 8 1 (vsOf [((0 : Int), (ob, gb, kA, ([0, 0, 0, 0, 0, 0, 0, 120] : List UInt8)))]) := (HInv.start 8 1).put (i := 0) (key := kA) (bs := [0, 0, 0, 0, 0, 0, 0, 120]) (by simp) rfl (by omega) (by omega) rfl (by simp)
  refine (hDrop H5 (List.mem_cons_self ..) hI kA rfl 0 rfl o0).mono ?_
  rintro e w5 ⟨rfl, H6⟩
  have H7 : SepK w w5 [(h, hblk 8 1 bs bv)] (hR bs bv [] emp) := H6
  clear H6 H5 hI
  have hs1 : (bstr [0, 0, 0, 0, 0, 0, 0, 120]).toList = [0, 0, 0, 0, 0, 0, 0, 120] := by kernel_rfl
  have hk0 : keysOf ([] : List Ent) = [] := by simp [keysOf]
  go_wp2_with (first
    | (go_at_call 26; (with_reducible refine (hFind_none H7 (List.mem_cons_self ..) kA rfl rfl).mono ?_); rintro e w6 ⟨rfl, rfl⟩)
    | (go_at_call 20; (with_reducible refine (hSlots H7 (List.mem_cons_self ..) (by simp)).mono ?_); rintro e w6 ⟨v, rfl, H8⟩; have H9 := H8.tl; rw [hk0] at H8; obtain ⟨A, c, rfl, -⟩ := H8.row)
    | (go_at_call 17; (with_reducible refine (hSize H9 (List.mem_cons_self ..)).mono ?_); rintro e w7 ⟨rfl, rfl⟩))
  go_ret
  exact ⟨rfl, H8.u⟩
end Go.Proofs.Ytagjcnhgappcjaa
