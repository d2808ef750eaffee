/- The document's answer for the table of handles: what Make refuses; Drop. -/
import Derived.Test.YtgleceijdedlkaaRef13c
namespace Go.Proofs.Ytgleceijdedlkaa
open Go.RowKit
set_option linter.unusedVariables false
set_option linter.unusedSimpArgs false
set_option linter.unusedSectionVars false
section
variable {w0 w : World} {K : List (Nat × Obj)} {T : Res} [Good T] {r : Nat} {vL vA : Value} {l la : List (Int × Int)}
set_option maxRecDepth 100000 in
set_option maxHeartbeats 4000000 in
theorem rMake_neg (H : SepK w0 w K (star (rowR 30 2 vL (l.map encH)) T)) (s : Int) (h0 : s < 0) :
    Calls Try.prog 43 #[.pointer (some ⟨r, 0, none⟩), .int .i64 s] w fun e w' => e = .returned (.tuple #[.agg #[.int .i64 0, .int .u64 0], .int .i64 2]) ∧ SepK w0 w' K (star (rowR 30 2 vL (l.map encH)) T) := by
  have z0 : decide (s < 0) = true := decide_eq_true h0
  have H1 := (H.alloc (.cells #[.int .i64 0, .int .u64 0] 30)).drop K (fun p hp => List.mem_cons_of_mem _ hp)
  go_enter Try.func43, Try.ntmps43
  go_wp2_with fail
  refine bodyPost_ret (v := .tuple #[.agg #[.int .i64 0, .int .u64 0], .int .i64 2]) (by simp [results, Try.results43, go_sem]) rfl ⟨rfl, H1⟩
set_option maxRecDepth 100000 in
set_option maxHeartbeats 4000000 in
theorem rMake_there (H : SepK w0 w K (star (rowR 30 2 vL (l.map encH)) T)) (hK : (r, rblk vL vA) ∈ K) (s : Int) (h0 : 0 ≤ s) (hat : 0 ≤ atI l s) (hl : l.length ≤ 10000) :
    Calls Try.prog 43 #[.pointer (some ⟨r, 0, none⟩), .int .i64 s] w fun e w' => e = .returned (.tuple #[.agg #[.int .i64 0, .int .u64 0], .int .i64 7]) ∧ SepK w0 w' K (star (rowR 30 2 vL (l.map encH)) T) := by
  have z0 : decide (s < 0) = false := decide_eq_false (by omega)
  have z1 : decide (0 ≤ atI l s) = true := decide_eq_true hat
  have H1 := H.alloc (.cells #[.int .i64 0, .int .u64 0] 30)
  have H2 := H1.drop K (fun p hp => List.mem_cons_of_mem _ hp)
  go_enter Try.func43, Try.ntmps43
  go_wp2_with fail
  refine (rAt H1 (List.mem_cons_of_mem _ hK) s (by omega)).mono ?_
  rintro e w1 ⟨rfl, rfl⟩
  clear H1
  go_wp2_with fail
  refine bodyPost_ret (v := .tuple #[.agg #[.int .i64 0, .int .u64 0], .int .i64 7]) (by simp [results, Try.results43, go_sem]) rfl ⟨rfl, H2⟩
set_option maxRecDepth 100000 in
set_option maxHeartbeats 4000000 in
theorem rDrop_no (H : SepK w0 w K (star (rowR 30 2 vL (l.map encH)) T)) (hK : (r, rblk vL vA) ∈ K) (p : Int × Int) (hp : p ∉ l) (hl : l.length ≤ 10000) (hnd : (l.map (·.1)).Nodup) :
    Calls Try.prog 42 #[.pointer (some ⟨r, 0, none⟩), .agg #[.int .i64 p.1, .int .u64 p.2]] w fun e w' => e = .returned (.int .i64 130) ∧ SepK w0 w' K (star (rowR 30 2 vL (l.map encH)) T) := by
  have H1 := H.alloc (.cells #[.int .i64 p.1, .int .u64 p.2] 30)
  go_enter Try.func42, Try.ntmps42
  go_wp2_with fail
  refine (rLives H1 (List.mem_cons_of_mem _ hK) p (by omega) hnd).mono ?_
  rw [decide_eq_false hp]
  rintro e w1 ⟨rfl, h2⟩
  go_wp2_with fail
  go_ret
  exact ⟨rfl, h2.drop K (fun p hp => List.mem_cons_of_mem _ hp)⟩
theorem delLen (l : List (Int × Int)) (k : Nat) (hk : k < l.length) : (List.take k (l.map encH) ++ List.drop (k + 1) (l.map encH)).length = l.length - 1 := by
  simp
  omega
set_option maxRecDepth 100000 in
set_option maxHeartbeats 8000000 in
theorem rDrop_ok (H : SepK w0 w ((r, rblk vL vA) :: K) (star (rowR 30 2 vL (l.map encH)) T)) (hKr : ∀ p ∈ K, p.1 ≠ r) (p : Int × Int) (k : Nat) (hk : l[k]? = some p) (hat : atI l p.1 = (k : Int)) (hl : l.length ≤ 10000) (hnd : (l.map (·.1)).Nodup) :
    Calls Try.prog 42 #[.pointer (some ⟨r, 0, none⟩), .agg #[.int .i64 p.1, .int .u64 p.2]] w fun e w' => ∃ vL', e = .returned (.int .i64 0) ∧ SepK w0 w' ((r, rblk vL' vA) :: K) (star (rowR 30 2 vL' ((l.take k ++ l.drop (k + 1)).map encH)) T) := by
  have hkl := (List.getElem?_eq_some_iff.1 hk).1
  have H1 := H.alloc (.cells #[.int .i64 p.1, .int .u64 p.2] 30)
  go_enter Try.func42, Try.ntmps42
  go_wp2_with fail
  refine (rLives H1 (List.mem_cons_of_mem _ List.mem_cons_self) p (by omega) hnd).mono ?_
  rw [decide_eq_true (List.mem_of_getElem? hk)]
  rintro e w1 ⟨rfl, h2⟩
  have fb := h2.blk List.mem_cons_self
  have q0 := cell_of fb 0
  simp only [List.getElem?_toArray, List.getElem?_cons_zero] at q0
  go_wp2_with fail
  refine (rAt h2 (List.mem_cons_of_mem _ List.mem_cons_self) p.1 (by omega)).mono ?_
  rintro e w2 ⟨rfl, rfl⟩
  rw [hat]
  clear fb q0 H1 hat hk
  obtain ⟨A, c, rfl, hr, hlc, hcm, hcA⟩ := h2.parts
  rw [List.length_map] at hlc h2
  clear H
  have h3 := h2.drop ((r, rblk (.slice A l.length c) vA) :: K) (fun p hp => List.mem_cons_of_mem _ hp)
  clear h2
  have fr := h3.blk List.mem_cons_self
  have c0 := cell_of fr 0
  have lt := lt_of_heap fr
  simp only [List.getElem?_toArray, List.getElem?_cons_zero, List.getElem?_cons_succ] at c0
  clear fr
  have pt := part_take (m := k) hr (by simp; omega) hcA
  obtain ⟨Ad, hAd⟩ : ∃ Ad, Ad = (if c = k + 1 then A else A.map fun a => a.add ((k + 1) * 2)) := ⟨_, rfl⟩
  have H5 := h3.row0 30 2
  obtain ⟨i0, hi0, hz0, hz1, hz2⟩ := info_parts info30
  have hrt := (hrows (l.take k))
  rw [List.map_take] at hrt
  have hrd := (hrows (l.drop (k + 1)))
  rw [List.map_drop] at hrd
  have e1 : (0 : Int) ≤ (k : Int) := by omega
  have e2 : (k : Int) ≤ (c : Int) := by omega
  have e3 : (k : Int) ≤ (l.length : Int) := by omega
  have e4 : (l.length : Int) ≤ (c : Int) := by omega
  have e5 : (k : Int) + 1 ≤ (l.length : Int) := by omega
  have hsl : ∀ w', (Instr.slice 54 (.slice A l.length c) (some (.int .i64 ((k : Int) + 1))) none none).run Try.prog w' = .ok (.slice Ad (l.length - (k + 1)) (c - (k + 1))) w' := fun w' => by
    rw [hAd]
    have e6 : ((k : Int) + 1) = ((k + 1 : Nat) : Int) := by omega
    rw [e6]
    have e7 : ((k + 1 : Nat) : Int) ≤ (l.length : Int) := by omega
    have e8 : (0 : Int) ≤ ((k + 1 : Nat) : Int) := by omega
    generalize k + 1 = m at e7 e8 ⊢
    by_cases hck : c = m
    · subst hck
      go_simp
    · have : ¬ m = c := fun e => hck e.symm
      go_simp
  have hAH : Unit → Ad = (if c = k + 1 then A else A.map fun a => a.add ((k + 1) * 2)) := fun _ => hAd
  clear hAd hr
  go_wp2_with (first
    | (at_builtin; refine wl_part rfl (.tmp 15) (.tmp 21) 54 rfl 30 i0 (.agg #[.int .i64 0, .int .u64 0]) 2 16 Try.underlying54 hi0 hz0 hz1 hz2 rfl (by decide) (.slice none 0 0) [] rfl H5 (.slice A k c) ((l.map encH).take k) rfl pt hrt.1 hrt.2 (by unfold maxLen; simp; omega) (by simp; omega) ?_; intro v1 w4 h6; rw [List.nil_append] at h6; have fr5 := h6.blk (b := r) List.mem_cons_self; have c05 := cell_of fr5 0; have lt5 := lt_of_heap fr5; simp only [List.getElem?_toArray, List.getElem?_cons_zero, List.getElem?_cons_succ] at c05; obtain ⟨hd1, hd2, hd3⟩ := h6.swap.partD; have pd5 := part_drop (m := k + 1) hd1 (by simp; omega) hd2 hd3; rw [List.length_map, ← hAH ()] at pd5; clear hd1 hd2 hd3)
    | (at_builtin; refine wl_part rfl (.tmp 24) (.tmp 31) 54 rfl 30 i0 (.agg #[.int .i64 0, .int .u64 0]) 2 16 Try.underlying54 hi0 hz0 hz1 hz2 rfl (by decide) _ _ rfl h6 _ ((l.map encH).drop (k + 1)) rfl pd5 hrd.1 hrd.2 (by unfold maxLen; simp; omega) (by simp; omega) ?_; intro v3 w6 h9; obtain ⟨A9, c9, rfl, hr9⟩ := h9.row; clear hr9; rw [delLen l k hkl] at h9 ⊢; have fr6 := h9.blk (b := r) List.mem_cons_self; have c06 := cell_of fr6 0; have ff6 := frozen_of fr6 0; have lt6 := lt_of_heap fr6; simp only [List.getElem?_toArray, List.getElem?_cons_zero, List.getElem?_cons_succ] at c06))
  have h10 := h9.set (o' := rblk (.slice A9 (l.length - 1) c9) vA) ((Upd.refl [r] w6).setCell ⟨r, 0, none⟩ (.slice A9 (l.length - 1) c9) (.inl (by simp))) (by simpa [rblk] using heap_setCell_same fr6 0 _) hKr
  go_ret
  refine ⟨.slice A9 (l.length - 1) c9, rfl, ?_⟩
  have e9 : (l.take k ++ l.drop (k + 1)).map encH = List.take k (l.map encH) ++ List.drop (k + 1) (l.map encH) := by simp
  first | rw [e9] | skip
  exact h10.imp fun _ g => star_imp g fun _ g => star_tail g
end
end Go.Proofs.Ytgleceijdedlkaa
