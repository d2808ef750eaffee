/- A hash: Slots. -/
import Derived.Test.YtagjcnhgappcjaaHKeys
namespace Go.Proofs.Ytagjcnhgappcjaa
open Go.RowKit Go.Maps Go.Sort Go.Shelf Go.WideElems
set_option linter.unusedVariables false
set_option linter.unusedSimpArgs false
theorem keys36 (mb : Option Nat) (W : World) : Calls Try.prog 36 #[.map mb] W fun e w' => e = .returned (.func (.func 43) #[] #[.pointer (some ⟨W.heap.size, 0, none⟩)]) ∧ w' = W.alloc (.cells #[.map mb] 63) :=
  (callsIn_wide (n := 5)).1 (AnyZI.keys_in Try.keysI Fence.wide 5 trivial rfl mb W)
theorem sorted35 {V : Type} {ev : V → Value} (w : World) (b : Nat) (l : List (Int × V)) (h : MapAt (Value.int .i64) ev okI w b l) (hl : l.length ≤ 100000) :
    Calls Try.prog 35 #[.func (.func 43) #[] #[.pointer (some ⟨w.heap.size, 0, none⟩)]] (w.alloc (.cells #[.map (some b)] 63)) fun e w' => ∃ v, e = .returned v ∧ rowR 3 1 v ((keysOf l).map encI) w' (fun b => w.heap.size ≤ b) ∧ Upd [] w w' := by
  obtain ⟨D0, hown, hsz, hperm⟩ := keys_bridge (P := Try.prog) (k := 3) h Try.underlying3 (by unfold maxLen; omega)
  refine (callsIn_wide (n := 5)).1 ?_
  have hseq : SeqGives Fence.wide 2 Try.prog 43 #[.pointer (some ⟨w.heap.size, 0, none⟩)] encZ (fun ss => ss.Perm (intKeys D0)) (Maps.size D0) (w.alloc (.cells #[.map (some b)] 63)) :=
    AnyZI.keys_gives (ρ := Try.keysI_ren) { Try.keysI with } Fence.wide _ trivial rfl (by omega) w.heap.size b l.length D0 _ (by simp) (by simp) (hown.alloc _)
  have cS := AnyZI.sorted_in Try.sortedI Fence.wide 5 trivial trivial trivial trivial rfl (by omega) (sortsI _) (enters_of Try.func42 (by kernel_rfl) rfl) 43 #[.pointer (some ⟨w.heap.size, 0, none⟩)] trivial (enters_of Try.func43 (by kernel_rfl) rfl) _ _ (by rw [hsz]; unfold maxLen; omega) (by rw [hsz]; omega) _ hseq
  change CallsIn _ _ Try.prog 35 _ _ _ at cS
  refine cS.mono ?_
  rintro e w' ⟨v, ss, rfl, hS, hrow, hnil, hb⟩
  refine ⟨v, rfl, ?_, ((Upd.refl [] w).alloc _).trans (Upd.of_below hb [])⟩
  have hp := mergeSort_of_perm_i (hS.trans hperm)
  have e1 : (ss.mergeSort leI).map encZ = (keysOf l).map encZ := by rw [hp]; rfl
  have e2 : ss.length = ((keysOf l).map encZ).length := by rw [← e1]; simp
  have hrow' : w'.ownsRow w.heap.size 3 1 v ((keysOf l).map encZ).length ((keysOf l).map encZ) := by
    rw [← e2, ← e1]
    exact ownsRow_base_a hrow (by simp)
  have e3 : (keysOf l).map encI = ((keysOf l).map encZ).map (fun x => [x]) := by rw [List.map_map]; rfl
  rw [e3]
  exact rowR_of (w := w) hrow'
section
variable {w0 w : World} {K : List (Nat × Obj)} {T : Res} [Good T] {h : Nat} {size n : Int} {bs bv : Nat} {l : List Ent}
set_option maxRecDepth 100000 in
theorem hSlots (H : SepK w0 w K (hR bs bv l T)) (hK : (h, hblk size n bs bv) ∈ K) (hl : l.length ≤ 100000) :
    Calls Try.prog 20 #[.pointer (some ⟨h, 0, none⟩)] w fun e w' => ∃ v, e = .returned v ∧ SepK w0 w' K (star (rowR 3 1 v ((keysOf l).map encI)) (hR bs bv l T)) := by
  have hb := H.blk hK
  have c3 := cell_of hb 3
  have lt := lt_of_heap hb
  simp only [List.getElem?_toArray, List.getElem?_cons_zero, List.getElem?_cons_succ] at c3
  have hm := H.values
  go_enter Try.func20, Try.ntmps20
  go_wp2_with (first
    | (go_at_call 30; (with_reducible refine (none_c hb).mono ?_); rintro e w1 ⟨rfl, rfl⟩)
    | (go_at_call 36; (with_reducible refine (keys36 _ _).mono ?_); rintro e w1 ⟨rfl, rfl⟩)
    | (go_at_call 35; (with_reducible refine (sorted35 w bv l hm hl).mono ?_); rintro e w2 ⟨v, rfl, hrow, u2⟩))
  go_ret
  exact ⟨v, rfl, H.more u2 hrow (fun _ hb => hb)⟩
set_option maxRecDepth 100000 in
theorem hSlots_nil (w : World) : Calls Try.prog 20 #[.pointer none] w fun e w' => e = .returned (.slice none 0 0) ∧ w = w' := by
  go_enter Try.func20, Try.ntmps20
  go_wp2_with (go_at_call 30; (with_reducible refine (none_nil _).mono ?_); rintro e w1 ⟨rfl, rfl⟩)
  go_ret
  exact ⟨rfl, rfl⟩
end
end Go.Proofs.Ytagjcnhgappcjaa
