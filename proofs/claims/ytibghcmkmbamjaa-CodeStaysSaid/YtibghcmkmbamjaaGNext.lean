/- Own texts, laid one behind the other: CNext, CRise, CPl1. -/
import Derived.Test.YtibghcmkmbamjaaCBase
import Derived.Test.YtibghcmkmbamjaaGShelf
import Derived.Sort.OwnSortedInts
import Derived.Test.YtibghcmkmbamjaaGPure
section
namespace Go.Proofs.Ytibghcmkmbamjaa
open Go.RowKit
set_option linter.unusedVariables false
set_option linter.unusedSimpArgs false
set_option linter.unusedSectionVars false
theorem ms2 (x y : Int) : ([x, y] : List Int).mergeSort (fun x y => decide (x ≤ y)) = if x ≤ y then [x, y] else [y, x] := by
  simp [List.mergeSort, List.MergeSort.Internal.splitInTwo, List.merge]
theorem ms1 (x : Int) : ([x] : List Int).mergeSort (fun x y => decide (x ≤ y)) = [x] := by
  simp [List.mergeSort]
theorem cp1 (x : Int) : Go.Lib.compact [x] = [x] := by
  simp [Go.Lib.compact, Go.Lib.compactUpTo, List.range, List.range.loop, Go.Lib.keeps, List.filter]
theorem cp2 (x y : Int) : Go.Lib.compact [x, y] = if x = y then [x] else [x, y] := by
  by_cases h : x = y
  · subst h
    simp [Go.Lib.compact, Go.Lib.compactUpTo, List.range, List.range.loop, Go.Lib.keeps, List.filter]
  · have : ¬ y = x := fun e => h e.symm
    simp [Go.Lib.compact, Go.Lib.compactUpTo, List.range, List.range.loop, Go.Lib.keeps, List.filter, h, this]
section
variable {w0 w : World} {K : List (Nat × Obj)} {T : Res} [Good T]
theorem sort87 {v : Value} {l : List Int} (H : SepK w0 w K (star (rowR 3 1 v (l.map encZi)) T)) (hl : l.length ≤ 100000) :
    Calls Try.prog 87 #[v] w fun e w' => e = .returned (.tuple #[]) ∧ SepK w0 w' K (star (rowR 3 1 v ((l.mergeSort fun x y => decide (x ≤ y)).map encZi)) T) := by
  have e1 : ∀ m : List Int, (m.map encZi).flatten = m.map (Value.int .i64) := fun m => by
    induction m with
    | nil => rfl
    | cons a m ih => simp only [List.map_cons, List.flatten_cons, ih]; rfl
  refine H.call1 fun N hN hf => ?_
  obtain ⟨h1, h2, h3⟩ := hN
  rcases h1.2 with ⟨rfl, hn⟩ | ⟨g, cap, cur, rfl, hb, hg, hc, hm, hcs, ht⟩
  · have : l = [] := List.eq_nil_of_length_eq_zero (by simpa using hn)
    subst this
    refine (AnyM.slices_Sort_int_none Try.sortI none 0 w).mono fun e w' ⟨a, b⟩ => ⟨a, ?_⟩
    subst b
    rw [List.mergeSort_nil]
    exact ⟨⟨h1, h2, h3⟩, .of (Upd.refl [] w')⟩
  · rw [List.length_map] at hc ht
    rw [Nat.mul_one, e1] at ht
    have hH := holds_of_blockI hg ht
    have := AnyM.slices_Sort_int Try.sortI g 0 cap l w hH (lt_of_heap hg) (by omega)
    rw [List.length_map]
    refine this.mono fun e w' ⟨a, n, os, b⟩ => ⟨a, ?_⟩
    subst b
    have ho := ownsRow_sortedI (w := w) (base := 0) (n := n) (os := os) (ss := l) (ts := l.mergeSort fun x y => decide (x ≤ y)) (by simp) (Nat.zero_le _) hg hc hm hcs
    refine ⟨⟨?_, ?_, h3⟩, .of1 (.of_grown (grownBy_sortedI _)) (h3 g rfl)⟩
    · rw [e1]
      have e2 : ((l.mergeSort fun x y => decide (x ≤ y)).map encZi).length = l.length := by simp
      rw [e2]
      exact ho
    · intro r hr
      obtain ⟨x, _, rfl⟩ := List.mem_map.1 hr
      rfl
theorem compact88 {v : Value} {l : List Int} (H : SepK w0 w K (star (rowR 3 1 v (l.map encZi)) T)) (hl : l.length ≤ 100000) :
    Calls Try.prog 88 #[v] w fun e w' => ∃ v', e = .returned v' ∧ SepK w0 w' K (star (rowR 3 1 v' ((Go.Lib.compact l).map encZi)) T) := by
  have e1 : ∀ m : List Int, (m.map encZi).flatten = m.map (Value.int .i64) := fun m => by
    induction m with
    | nil => rfl
    | cons a m ih => simp only [List.map_cons, List.flatten_cons, ih]; rfl
  refine H.call fun N hN hf => ?_
  obtain ⟨h1, h2, h3⟩ := hN
  rcases h1.2 with ⟨rfl, hn⟩ | ⟨g, cap, cur, rfl, hb, hg, hc, hm, hcs, ht⟩
  · have : l = [] := List.eq_nil_of_length_eq_zero (by simpa using hn)
    subst this
    refine (AnyG.slices_Compact_int_empty Try.compactI none 0 w).mono fun e w' ⟨a, b⟩ => ⟨_, a, ?_⟩
    subst b
    exact ⟨⟨h1, h2, h3⟩, .of (Upd.refl [] w')⟩
  · rw [List.length_map] at hc ht
    rw [Nat.mul_one, e1] at ht
    have hH := holds_of_blockI hg ht
    have hcl : (Go.Lib.compact l).length ≤ l.length := by
      unfold Go.Lib.compact Go.Lib.compactUpTo
      rw [List.length_map]
      exact Nat.le_trans (List.length_filter_le _ _) (by simp)
    have := AnyG.slices_Compact_int Try.compactI g 0 cap l w hH (by omega) hc
    rw [List.length_map]
    refine this.mono fun e w' ⟨a, n, b⟩ => ⟨_, a, ?_⟩
    subst b
    have hgr : ∀ X : World, X = Go.Sort.grow X #[] := fun X => (Go.Sort.grow_empty X).symm
    rw [hgr (Go.Sort.putRow _ _ _ _ _)]
    have hz : (Go.Lib.compact l ++ List.replicate (l.length - (Go.Lib.compact l).length) 0).length = l.length := by simp; omega
    have ho := ownsRow_sortedI (w := w) (base := 0) (n := n) (os := #[]) (ss := l) (ts := Go.Lib.compact l ++ List.replicate (l.length - (Go.Lib.compact l).length) 0) hz (Nat.zero_le _) hg hc hm hcs
    refine ⟨⟨?_, ?_, fun g' hg' => by cases hg'; exact h3 g rfl⟩, .of1 (.of_grown (grownBy_sortedI _)) (h3 g rfl)⟩
    · rw [e1, List.length_map]
      rcases ho.2 with ⟨h, _⟩ | ⟨g', cap', cur', e5, _, hg', hc', hm', hcs', ht'⟩
      · cases h
      · cases e5
        refine ⟨by simp, .inr ⟨g, cap, cur', rfl, Nat.zero_le _, hg', by omega, hm', hcs', ?_⟩⟩
        have e6 : cur'.toList.take ((Go.Lib.compact l).length * 1) = (cur'.toList.take (l.length * 1)).take (Go.Lib.compact l).length := by
          rw [List.take_take, Nat.mul_one, Nat.mul_one, Nat.min_eq_left hcl]
        rw [e6, ht', List.map_append, List.take_left' (by simp)]
    · intro r hr
      obtain ⟨x, _, rfl⟩ := List.mem_map.1 hr
      rfl
end
theorem info3 : (Try.prog.info? 3).map (fun i => (i.zero, i.size, i.bytes)) = some (some (.int .i64 0), 1, 8) := by kernel_rfl
theorem cell_one_z (w : World) (x : Int) : ∀ j u, (encZi x)[j]? = some u → (w.alloc (.cells #[.int .i64 x] 3)).cell? ((⟨w.heap.size, 0, none⟩ : Addr).add j) = some u := by
  intro j u hj
  have hb := heap_alloc_new w (.cells #[.int .i64 x] 3)
  match j, hj with
  | 0, hj => cases hj; rw [addr_add]; rw [cell_of hb]; rfl
section
variable {w0 w : World} {K : List (Nat × Obj)} {T : Res} [Good T] {A : Option Addr} {l : List Ins}
/-- What Sort and Compact make of what was appended. -/
theorem next_one (x : Int) : Go.Lib.compact (([x] : List Int).mergeSort fun x y => decide (x ≤ y)) = [x] := by rw [ms1, cp1]
theorem next_two (x y : Int) : Go.Lib.compact (([x, y] : List Int).mergeSort fun x y => decide (x ≤ y)) = if x < y then [x, y] else if x = y then [x] else [y, x] := by
  rw [ms2]
  by_cases h : x ≤ y
  · rw [if_pos h, cp2]
    by_cases e : x = y
    · rw [if_pos e, if_neg (by omega), if_pos e]
    · rw [if_neg e, if_pos (by omega)]
  · rw [if_neg h, cp2, if_neg (by omega), if_neg (by omega), if_neg (by omega)]
set_option maxRecDepth 100000 in
set_option maxHeartbeats 8000000 in
theorem next38 (c : Nat) (H : SepK w0 w K T) (hr : RowsAt w A 5 (l.map encN)) (hok : ∀ x ∈ l, OkI x) (a : Int) (hl : l.length ≤ 100000) :
    Calls Try.prog 38 #[.slice A l.length c, .int .i64 a] w fun e w' => ∃ v, e = .returned v ∧ SepK w0 w' K (star (rowR 3 1 v ((nextP l a).map encZi)) T) := by
  have hkk := kind85 c hr hok a
  obtain ⟨i0, hi0, hz0, hz1, hz2⟩ := info_parts info3
  by_cases kb : kindP l a = 0 ∨ kindP l a = 8
  · have hn : nextP l a = [] := by unfold nextP; rw [if_pos kb]
    rw [hn]
    have hks : (kindP l a == 0) = true ∨ ((kindP l a == 0) = false ∧ (kindP l a == 8) = true) := by
      rcases kb with h | h
      · exact .inl (by simp [h])
      · exact .inr ⟨by rw [h]; decide, by simp [h]⟩
    clear kb hn hr
    generalize kindP l a = k at hkk hks
    rcases hks with z0 | ⟨z0, z8⟩
    all_goals
      go_enter Try.func38, Try.ntmps38
      go_wp2_with fail
      refine hkk.mono ?_
      rintro e w1 ⟨rfl, u1⟩
      go_wp2_with fail
      go_ret
      exact ⟨_, rfl, (H.upd u1).row0 3 1⟩
  · obtain ⟨n, x, rfl, hx⟩ := kindP_in (l := l) (a := a) (fun h => kb (.inl h))
    obtain ⟨b, off, rfl, k0, k1, k2, k3, k4⟩ := cellN hr hx
    have hnl := (List.getElem?_eq_some_iff.1 hx).1
    have ho := hok x (List.mem_of_getElem? hx)
    have o0 := ho.o0
    have o1 := ho.o1
    have z2 : (0 : Int) ≤ (n : Int) := by omega
    have z3 : (n : Int) < (l.length : Int) := by omega
    have z0 : (kindP l (n : Int) == 0) = false := by simpa using fun h => kb (.inl h)
    have z8 : (kindP l (n : Int) == 8) = false := by simpa using fun h => kb (.inr h)
    have y1 : IntKind.i64.wrap ((n : Int) + 1) = (n : Int) + 1 := IntWalk.i64_in _ (by omega)
    have y2 : IntKind.i64.wrap x.O = x.O := IntWalk.i64_in _ (by omega)
    have y3 : IntKind.i64.wrap ((n : Int) + 1 + x.O) = (n : Int) + 1 + x.O := IntWalk.i64_in _ (by omega)
    have hof : offP l (n : Int) = x.O := by unfold offP; simp [hx]
    have hrow := (H.row0 3 1)
    by_cases k10 : kindP l (n : Int) = 10
    · have hn : nextP l (n : Int) = [(n : Int) + 1 + x.O] := by unfold nextP; rw [if_neg kb, if_pos k10, hof]
      have z10 : (kindP l (n : Int) == 10) = true := by simp [k10]
      have z5 : (kindP l (n : Int) == 5) = false := by rw [k10]; decide
      rw [hn, ← next_one]
      clear kb hn hr hx ho hof k10 k0 k1 k2 k4
      generalize kindP l (n : Int) = k at hkk z0 z8 z10 z5
      generalize hto : (n : Int) + 1 + x.O = tt at y3 ⊢
      go_enter Try.func38, Try.ntmps38
      go_wp2_with fail
      refine hkk.mono ?_
      rintro e w1 ⟨rfl, u1⟩
      have k3' := u1.cell k3 (by simp)
      have h1 := (hrow.upd u1).alloc (.cells #[.int .i64 tt] 3)
      clear k3 hrow hkk
      go_wp2_with (at_builtin; refine wl_append rfl _ _ 56 rfl 3 i0 (.int .i64 0) 1 8 Try.underlying56 hi0 hz0 hz1 hz2 rfl (by decide) _ _ rfl h1 ⟨w1.heap.size, 0, none⟩ 1 (encZi tt) rfl rfl (cell_one_z _ _) (fun x hx => by simp [encZi] at hx; rcases hx with rfl; rfl) (by unfold maxLen; simp) (by simp) ?_; intro v' w5 h8)
      obtain ⟨A5, c5, rfl, -⟩ := h8.row
      go_wp2_with fail
      refine (sort87 (l := [tt]) (h8.drop K (fun p hp => by simp [hp])) (by simp)).mono ?_
      rintro e w6 ⟨rfl, h6⟩
      go_wp2_with fail
      refine (compact88 h6 (by simp)).mono ?_
      rintro e w7 ⟨v7, rfl, h7⟩
      generalize hll : Go.Lib.compact (([tt] : List Int).mergeSort fun x y => decide (x ≤ y)) = ll at h7
      have hH : Unit → Go.Lib.compact (([tt] : List Int).mergeSort fun x y => decide (x ≤ y)) = ll := fun _ => hll
      clear hll
      obtain ⟨A7, c7, rfl, -⟩ := h7.row
      rw [List.length_map] at h7
      go_wp2_with fail
      go_ret
      rw [hH ()]
      exact ⟨.slice A7 ll.length c7, rfl, h7⟩
    · have z10 : (kindP l (n : Int) == 10) = false := by simpa using k10
      by_cases k5 : kindP l (n : Int) = 5
      · have z5 : (kindP l (n : Int) == 5) = true := by simp [k5]
        have hn : nextP l (n : Int) = Go.Lib.compact (([(n : Int) + 1 + x.O, (n : Int) + 1] : List Int).mergeSort fun x y => decide (x ≤ y)) := by
          unfold nextP
          rw [if_neg kb, if_neg k10, if_pos k5, hof, next_two]
          have e1 : ((n : Int) + 1 + x.O < (n : Int) + 1) ↔ x.O < 0 := ⟨fun h => by omega, fun h => by omega⟩
          have e2 : ((n : Int) + 1 + x.O = (n : Int) + 1) ↔ x.O = 0 := ⟨fun h => by omega, fun h => by omega⟩
          simp only [e1, e2]
          by_cases a2 : x.O = 0 <;> simp [a2]
        rw [hn]
        clear kb hn hr hx ho hof k10 k5 k0 k1 k2 k4
        generalize kindP l (n : Int) = k at hkk z0 z8 z10 z5
        generalize hto : (n : Int) + 1 + x.O = tt at y3 ⊢
        go_enter Try.func38, Try.ntmps38
        go_wp2_with fail
        refine hkk.mono ?_
        rintro e w1 ⟨rfl, u1⟩
        have k3' := u1.cell k3 (by simp)
        have h1 := (hrow.upd u1).alloc (.cells #[.int .i64 tt] 3)
        clear k3 hrow hkk
        go_wp2_with (first | (at_builtin; refine wl_append rfl _ _ 56 rfl 3 i0 (.int .i64 0) 1 8 Try.underlying56 hi0 hz0 hz1 hz2 rfl (by decide) _ _ rfl h1 ⟨w1.heap.size, 0, none⟩ 1 (encZi tt) rfl rfl (cell_one_z _ _) (fun x hx => by simp [encZi] at hx; rcases hx with rfl; rfl) (by unfold maxLen; simp) (by simp) ?_; intro v5 w5 h5; have h8 := h5.alloc (.cells #[.int .i64 ((n : Int) + 1)] 3)) | (at_builtin; refine wl_append rfl _ _ 56 rfl 3 i0 (.int .i64 0) 1 8 Try.underlying56 hi0 hz0 hz1 hz2 rfl (by decide) _ _ rfl h8 ⟨w5.heap.size, 0, none⟩ 1 (encZi ((n : Int) + 1)) rfl rfl (cell_one_z _ _) (fun x hx => by simp [encZi] at hx; rcases hx with rfl; rfl) (by unfold maxLen; simp) (by simp) ?_; intro v9 w9 h9))
        obtain ⟨A5, c5, rfl, -⟩ := h9.row
        go_wp2_with fail
        refine (sort87 (l := [tt, (n : Int) + 1]) (h9.drop K (fun p hp => by simp [hp])) (by simp)).mono ?_
        rintro e w6 ⟨rfl, h6⟩
        go_wp2_with fail
        refine (compact88 h6 (by simp)).mono ?_
        rintro e w7 ⟨v7, rfl, h7⟩
        generalize hll : Go.Lib.compact (([tt, (n : Int) + 1] : List Int).mergeSort fun x y => decide (x ≤ y)) = ll at h7
        have hH : Unit → Go.Lib.compact (([tt, (n : Int) + 1] : List Int).mergeSort fun x y => decide (x ≤ y)) = ll := fun _ => hll
        clear hll
        obtain ⟨A7, c7, rfl, -⟩ := h7.row
        rw [List.length_map] at h7
        go_wp2_with fail
        go_ret
        rw [hH ()]
        exact ⟨.slice A7 ll.length c7, rfl, h7⟩
      · have z5 : (kindP l (n : Int) == 5) = false := by simpa using k5
        have hn : nextP l (n : Int) = [(n : Int) + szK (kindP l (n : Int))] := by
          unfold nextP
          rw [if_neg kb, if_neg k10, if_neg k5]
        rw [hn, ← next_one]
        have hs86 : ∀ w, Calls Try.prog 86 #[.int .u8 (kindP l (n : Int))] w fun e w' => e = .returned (.int .i64 (szK (kindP l (n : Int)))) ∧ w = w' := fun w => size86 _
        have hsb := szK_bd (kindP l (n : Int))
        clear kb hn hr hx ho hof k10 k5 k0 k1 k2 k3 k4 y1 y2 y3
        generalize szK (kindP l (n : Int)) = sz at hs86 hsb ⊢
        generalize kindP l (n : Int) = k at hkk z0 z8 z10 z5 hs86
        have y1 : IntKind.i64.wrap ((n : Int) + sz) = (n : Int) + sz := IntWalk.i64_in _ (by omega)
        generalize hto : (n : Int) + sz = tt at y1 ⊢
        go_enter Try.func38, Try.ntmps38
        go_wp2_with fail
        refine hkk.mono ?_
        rintro e w1 ⟨rfl, u1⟩
        have h1 := (hrow.upd u1).alloc (.cells #[.int .i64 tt] 3)
        clear hrow hkk
        go_wp2_with (first | (go_at_call 86; refine (hs86 _).mono ?_; rintro e w2 ⟨rfl, rfl⟩) | (at_builtin; refine wl_append rfl _ _ 56 rfl 3 i0 (.int .i64 0) 1 8 Try.underlying56 hi0 hz0 hz1 hz2 rfl (by decide) _ _ rfl h1 ⟨w1.heap.size, 0, none⟩ 1 (encZi tt) rfl rfl (cell_one_z _ _) (fun x hx => by simp [encZi] at hx; rcases hx with rfl; rfl) (by unfold maxLen; simp) (by simp) ?_; intro v' w5 h8))
        obtain ⟨A5, c5, rfl, -⟩ := h8.row
        go_wp2_with fail
        refine (sort87 (l := [tt]) (h8.drop K (fun p hp => by simp [hp])) (by simp)).mono ?_
        rintro e w6 ⟨rfl, h6⟩
        go_wp2_with fail
        refine (compact88 h6 (by simp)).mono ?_
        rintro e w7 ⟨v7, rfl, h7⟩
        generalize hll : Go.Lib.compact (([tt] : List Int).mergeSort fun x y => decide (x ≤ y)) = ll at h7
        have hH : Unit → Go.Lib.compact (([tt] : List Int).mergeSort fun x y => decide (x ≤ y)) = ll := fun _ => hll
        clear hll
        obtain ⟨A7, c7, rfl, -⟩ := h7.row
        rw [List.length_map] at h7
        go_wp2_with fail
        go_ret
        rw [hH ()]
        exact ⟨.slice A7 ll.length c7, rfl, h7⟩
end
end Go.Proofs.Ytibghcmkmbamjaa
end
section
namespace Go.Proofs.Ytibghcmkmbamjaa
set_option linter.unusedVariables false
set_option linter.unusedSimpArgs false
open Go.Lib
def Rising (l : List Int) : Prop := l.Pairwise (· < ·)
theorem Rising.nodup {l : List Int} (h : Rising l) : l.Nodup := h.imp fun h e => by omega
theorem Rising.eq {l m : List Int} (hl : Rising l) (hm : Rising m) (h : ∀ x, x ∈ l ↔ x ∈ m) : l = m := by
  have hp : l.Perm m := (List.perm_ext_iff_of_nodup hl.nodup hm.nodup).2 h
  exact hp.eq_of_pairwise (le := (· < ·)) (fun a b _ _ h1 h2 => by omega) hl hm
theorem sorted_le (l : List Int) : (l.mergeSort fun x y => decide (x ≤ y)).Pairwise (· ≤ ·) := by
  have := List.pairwise_mergeSort (le := fun x y : Int => decide (x ≤ y)) (fun a b c h1 h2 => by simp at *; omega) (fun a b => by simp; omega) l
  exact this.imp fun h => of_decide_eq_true h
open Go.Lib in
theorem compact_rising {l : List Int} (h : l.Pairwise (· ≤ ·)) : Rising (compact l) ∧ ∀ x, x ∈ compact l ↔ x ∈ l := by
  have key : ∀ m, m ≤ l.length → Rising (compactUpTo l.toArray m) ∧ ∀ x, x ∈ compactUpTo l.toArray m ↔ ∃ j, j < m ∧ l.toArray[j]! = x := by
    intro m
    induction m with
    | zero => intro _; exact ⟨List.Pairwise.nil, fun x => ⟨fun h => (by cases h), fun ⟨j, hj, _⟩ => (by omega)⟩⟩
    | succ m ih =>
      intro hm
      obtain ⟨h1, h2⟩ := ih (by omega)
      rw [compactUpTo_succ]
      have hle : ∀ i j, i < j → j < l.length → l.toArray[i]! ≤ l.toArray[j]! := fun i j hij hj => by
        have := List.pairwise_iff_getElem.1 h i j (by omega) hj hij
        simpa [getElem!_pos, show i < l.length by omega, hj] using this
      by_cases hk : keeps l.toArray m = true
      · rw [if_pos hk]
        refine ⟨?_, fun x => ?_⟩
        · refine List.pairwise_append.2 ⟨h1, List.pairwise_singleton _ _, fun a ha b hb => ?_⟩
          obtain ⟨j, hj, rfl⟩ := (h2 a).1 ha
          obtain rfl := List.mem_singleton.1 hb
          have hne : m = 0 ∨ l.toArray[m]! ≠ l.toArray[m - 1]! := of_decide_eq_true hk
          have hne' := hne.resolve_left (by omega)
          have e1 := hle (m - 1) m (by omega) (by omega)
          by_cases e : j = m - 1
          · subst e; omega
          · have e2 := hle j (m - 1) (by omega) (by omega)
            omega
        · rw [List.mem_append, List.mem_singleton, h2]
          constructor
          · rintro (⟨j, hj, e⟩ | rfl)
            · exact ⟨j, by omega, e⟩
            · exact ⟨m, by omega, rfl⟩
          · rintro ⟨j, hj, e⟩
            by_cases e2 : j = m
            · subst e2; exact .inr e.symm
            · exact .inl ⟨j, by omega, e⟩
      · rw [if_neg hk, List.append_nil]
        refine ⟨h1, fun x => ?_⟩
        rw [h2]
        have hne : ¬ (m = 0 ∨ l.toArray[m]! ≠ l.toArray[m - 1]!) := fun h => hk (decide_eq_true h)
        have h0 : m ≠ 0 := fun e => hne (.inl e)
        have heq : l.toArray[m]! = l.toArray[m - 1]! := Classical.byContradiction fun e => hne (.inr e)
        constructor
        · rintro ⟨j, hj, e⟩
          exact ⟨j, by omega, e⟩
        · rintro ⟨j, hj, e⟩
          by_cases e2 : j = m
          · subst e2; exact ⟨j - 1, by omega, by rw [← e, heq]⟩
          · exact ⟨j, by omega, e⟩
  obtain ⟨h1, h2⟩ := key l.length (Nat.le_refl _)
  refine ⟨h1, fun x => ?_⟩
  show x ∈ compactUpTo l.toArray l.length ↔ _
  rw [h2]
  constructor
  · rintro ⟨j, hj, rfl⟩
    simp [getElem!_pos, hj]
  · intro hx
    obtain ⟨j, hj, rfl⟩ := List.mem_iff_getElem.1 hx
    exact ⟨j, hj, by simp [getElem!_pos, hj]⟩
theorem insU_mem (x : Int) : ∀ (l : List Int) (y : Int), y ∈ insU x l ↔ y = x ∨ y ∈ l
  | [], y => by simp [insU]
  | z :: l, y => by
    rw [insU]
    split
    · simp
    · split
      · rename_i h; subst h; simp
      · rw [List.mem_cons, insU_mem x l y, List.mem_cons]
        constructor
        · rintro (h | h | h)
          · exact .inr (.inl h)
          · exact .inl h
          · exact .inr (.inr h)
        · rintro (h | h | h)
          · exact .inr (.inl h)
          · exact .inl h
          · exact .inr (.inr h)
theorem insU_rising (x : Int) : ∀ (l : List Int), Rising l → Rising (insU x l)
  | [], _ => by simp [insU, Rising]
  | z :: l, h => by
    have h1 := List.pairwise_cons.1 h
    rw [insU]
    split
    · rename_i hx
      exact List.pairwise_cons.2 ⟨fun y hy => by
        rcases List.mem_cons.1 hy with rfl | hy
        · exact hx
        · have := h1.1 y hy; omega, h⟩
    · split
      · exact h
      · exact List.pairwise_cons.2 ⟨fun y hy => by
          rcases (insU_mem x l y).1 hy with rfl | hy
          · omega
          · exact h1.1 y hy, insU_rising x l h1.2⟩
theorem riseU_rising : ∀ (l : List Int), Rising (riseU l)
  | [] => by simp [riseU, Rising]
  | x :: l => insU_rising x _ (riseU_rising l)
theorem riseU_mem : ∀ (l : List Int) (y : Int), y ∈ riseU l ↔ y ∈ l
  | [], y => by simp [riseU]
  | x :: l, y => by
    show y ∈ insU x (riseU l) ↔ _
    rw [insU_mem, riseU_mem l y, List.mem_cons]
theorem rise_eq (l : List Int) : compact (l.mergeSort fun x y => decide (x ≤ y)) = riseU l := by
  obtain ⟨h1, h2⟩ := compact_rising (sorted_le l)
  refine h1.eq (riseU_rising l) fun x => ?_
  rw [h2, riseU_mem, (List.mergeSort_perm _ _).mem_iff]
end Go.Proofs.Ytibghcmkmbamjaa
end
section
namespace Go.Proofs.Ytibghcmkmbamjaa
set_option linter.unusedVariables false
set_option linter.unusedSimpArgs false
theorem szK_pos (k : Int) : 1 ≤ szK k ∧ szK k ≤ 2 := by
  unfold szK
  split <;> omega
section
variable {l : List Ins}
theorem allF_bd : ∀ (f : Nat) (a x : Int), x ∈ allF l f a → a ≤ x ∧ x < (l.length : Int)
  | 0, a, x, h => by simp [allF] at h
  | f + 1, a, x, h => by
    rw [allF] at h
    split at h
    · rename_i h1
      have := szK_pos (kindP l a)
      rcases List.mem_cons.1 h with rfl | h
      · exact ⟨by omega, h1⟩
      · have := allF_bd f _ x h
        exact ⟨by omega, this.2⟩
    · simp at h
theorem allF_rising : ∀ (f : Nat) (a : Int), Rising (allF l f a)
  | 0, a => by simp [allF, Rising]
  | f + 1, a => by
    rw [allF]
    split
    · refine List.pairwise_cons.2 ⟨fun x hx => ?_, allF_rising f _⟩
      have := (allF_bd f _ x hx).1
      have := szK_pos (kindP l a)
      omega
    · simp [Rising]
theorem allF_cover : ∀ (f : Nat) (a : Int), (l.length : Int) - a ≤ (f : Int) → ∀ x, a ≤ x → x < (l.length : Int) → x ∈ allF l f a ∨ (x - 1 ∈ allF l f a ∧ kindP l (x - 1) = 9)
  | 0, a, h, x, h0, h1 => by omega
  | f + 1, a, h, x, h0, h1 => by
    rw [allF, if_pos (by omega)]
    have hs := szK_pos (kindP l a)
    by_cases e : x = a
    · exact .inl (by simp [e])
    · by_cases e2 : a + szK (kindP l a) ≤ x
      · rcases allF_cover f (a + szK (kindP l a)) (by omega) x e2 h1 with h2 | ⟨h2, h3⟩
        · exact .inl (List.mem_cons_of_mem _ h2)
        · exact .inr ⟨List.mem_cons_of_mem _ h2, h3⟩
      · refine .inr ?_
        have e3 : x - 1 = a := by omega
        rw [e3]
        refine ⟨by simp, ?_⟩
        unfold szK at e2
        split at e2
        · assumption
        · omega
theorem allF_next : ∀ (f : Nat) (a : Int), (l.length : Int) - a ≤ (f : Int) → ∀ x ∈ allF l f a, x + szK (kindP l x) < (l.length : Int) → x + szK (kindP l x) ∈ allF l f a
  | 0, a, h, x, hx, _ => by simp [allF] at hx
  | f + 1, a, h, x, hx, h1 => by
    rw [allF] at hx ⊢
    split at hx
    · rename_i h2
      rw [if_pos h2]
      have hs := szK_pos (kindP l a)
      rcases List.mem_cons.1 hx with rfl | hx
      · refine List.mem_cons_of_mem _ ?_
        cases f with
        | zero => omega
        | succ f => rw [allF, if_pos h1]; simp
      · exact List.mem_cons_of_mem _ (allF_next f _ (by omega) x hx h1)
    · simp at hx
theorem allP_bd {x : Int} (h : x ∈ allP l) : 0 ≤ x ∧ x < (l.length : Int) := allF_bd _ _ _ h
theorem allP_rising (l : List Ins) : Rising (allP l) := allF_rising _ _
theorem allP_cover {x : Int} (h0 : 0 ≤ x) (h1 : x < (l.length : Int)) : x ∈ allP l ∨ (x - 1 ∈ allP l ∧ kindP l (x - 1) = 9) := allF_cover _ _ (by omega) x h0 h1
theorem allP_next {x : Int} (h : x ∈ allP l) (h1 : x + szK (kindP l x) < (l.length : Int)) : x + szK (kindP l x) ∈ allP l := allF_next _ _ (by omega) x h h1
theorem allP_zero (h : 0 < l.length) : (0 : Int) ∈ allP l := by
  obtain ⟨n, hn⟩ : ∃ n, l.length = n + 1 := ⟨l.length - 1, by omega⟩
  unfold allP
  rw [hn, allF, if_pos (by omega)]
  simp
theorem rising_len : ∀ (n : Nat) {s : List Int}, Rising s → (∀ x ∈ s, 0 ≤ x ∧ x < (n : Int)) → s.length ≤ n := fun n s hs hb => by
  have := len_le_of_nodup s ((List.range n).map fun i : Nat => (i : Int)) hs.nodup (fun x hx => by
    have := hb x hx
    exact List.mem_map.2 ⟨x.toNat, List.mem_range.2 (by omega), by omega⟩)
  simpa using this
theorem allP_len (l : List Ins) : (allP l).length ≤ l.length := rising_len _ (allP_rising l) fun x hx => allP_bd hx
end
/-- The rows of pairs. -/
theorem pairs_fst (n : Int) : ∀ S : List Int, (pairsP n S).map (·.1) = S
  | [] => rfl
  | [a] => rfl
  | a :: b :: r => by simp only [pairsP, List.map_cons, pairs_fst n (b :: r)]
theorem pairs_length (n : Int) (S : List Int) : (pairsP n S).length = S.length := by
  have := congrArg List.length (pairs_fst n S)
  simpa using this
theorem pairs_get (n : Int) : ∀ (S : List Int) (k : Nat) (s : Int × Int), (pairsP n S)[k]? = some s → S[k]? = some s.1 ∧ (S ++ [n])[k + 1]? = some s.2
  | [], k, s, h => by simp [pairsP] at h
  | [a], 0, s, h => by simp [pairsP] at h; subst h; simp
  | [a], k + 1, s, h => by simp [pairsP] at h
  | a :: b :: r, 0, s, h => by simp [pairsP] at h; subst h; simp
  | a :: b :: r, k + 1, s, h => by
    simp only [pairsP, List.getElem?_cons_succ] at h
    have := pairs_get n (b :: r) k s h
    simpa using this
theorem rising_get {S : List Int} (h : Rising S) {i j : Nat} {x y : Int} (hi : S[i]? = some x) (hj : S[j]? = some y) : (i < j → x < y) ∧ (x < y → i < j) := by
  obtain ⟨h1, e1⟩ := List.getElem?_eq_some_iff.1 hi
  obtain ⟨h2, e2⟩ := List.getElem?_eq_some_iff.1 hj
  have key : ∀ (a b : Nat) (ha : a < S.length) (hb : b < S.length), a < b → S[a] < S[b] := fun a b ha hb hab => List.pairwise_iff_getElem.1 h a b ha hb hab
  subst e1 e2
  refine ⟨fun hij => key _ _ h1 h2 hij, fun hxy => ?_⟩
  rcases Nat.lt_trichotomy i j with g | g | g
  · exact g
  · subst g; omega
  · have := key _ _ h2 h1 g; omega
/-- A row of beginnings, rising, in a program of n slots. -/
structure Rows (n : Int) (S : List Int) : Prop where
  rise : Rising (S ++ [n])
  zero : S.head? = some 0
section
variable {n : Int} {S : List Int}
theorem Rows.sub (h : Rows n S) {k : Nat} {s : Int × Int} (hk : (pairsP n S)[k]? = some s) : 0 ≤ s.1 ∧ s.1 < s.2 ∧ s.2 ≤ n ∧ s.1 ∈ S := by
  obtain ⟨h1, h2⟩ := pairs_get n S k s hk
  have hlt := (List.getElem?_eq_some_iff.1 h1).1
  have h1' : (S ++ [n])[k]? = some s.1 := by rw [List.getElem?_append_left hlt]; exact h1
  have h0 : (S ++ [n])[0]? = some 0 := by
    have := h.zero
    cases S with
    | nil => simp at hlt
    | cons a r => simpa using this
  have hn : (S ++ [n])[S.length]? = some n := by simp
  refine ⟨?_, (rising_get h.rise h1' h2).1 (by omega), ?_, List.mem_of_getElem? h1⟩
  · cases k with
    | zero => have := Option.some.inj (h0.symm.trans h1'); omega
    | succ k => have := (rising_get h.rise h0 h1').1 (by omega); omega
  · by_cases e : k + 1 = S.length
    · rw [e, hn] at h2; cases h2; omega
    · have := (rising_get h.rise h2 hn).1 (by omega); omega
theorem Rows.in_lt (h : Rows n S) {i j : Nat} {s t : Int × Int} (hi : (pairsP n S)[i]? = some s) (hj : (pairsP n S)[j]? = some t) (hij : i < j) : s.2 ≤ t.1 := by
  obtain ⟨h1, h2⟩ := pairs_get n S i s hi
  obtain ⟨h3, h4⟩ := pairs_get n S j t hj
  have hlt := (List.getElem?_eq_some_iff.1 h3).1
  have h3' : (S ++ [n])[j]? = some t.1 := by rw [List.getElem?_append_left hlt]; exact h3
  by_cases e : i + 1 = j
  · rw [e] at h2; have := Option.some.inj (h3'.symm.trans h2); omega
  · have := (rising_get h.rise h2 h3').1 (by omega); omega
theorem Rows.one (h : Rows n S) {i j : Nat} {s t : Int × Int} {a : Int} (hi : (pairsP n S)[i]? = some s) (hj : (pairsP n S)[j]? = some t) (h1 : s.1 ≤ a ∧ a < s.2) (h2 : t.1 ≤ a ∧ a < t.2) : i = j := by
  rcases Nat.lt_trichotomy i j with g | g | g
  · have := h.in_lt hi hj g; omega
  · exact g
  · have := h.in_lt hj hi g; omega
theorem Rows.of (h : Rows n S) {k : Nat} {s : Int × Int} {a : Int} (hk : (pairsP n S)[k]? = some s) (h1 : s.1 ≤ a ∧ a < s.2) : ofP (pairsP n S) a = k := by
  unfold ofP
  cases hf : (pairsP n S).findIdx? (inSub a) with
  | none =>
    rw [List.findIdx?_eq_none_iff] at hf
    have := hf s (List.mem_of_getElem? hk)
    simp [inSub, h1.1, h1.2] at this
  | some i =>
    obtain ⟨hi, hp, -⟩ := List.findIdx?_eq_some_iff_getElem.1 hf
    simp [inSub] at hp
    have := h.one hk (List.getElem?_eq_getElem hi) h1 hp
    simp [this]
theorem ofP_none {subs : List (Int × Int)} {a : Int} (h : ∀ s ∈ subs, ¬ (s.1 ≤ a ∧ a < s.2)) : ofP subs a = -1 := by
  unfold ofP
  cases hf : subs.findIdx? (inSub a) with
  | none => rfl
  | some i =>
    obtain ⟨hi, hp, -⟩ := List.findIdx?_eq_some_iff_getElem.1 hf
    simp [inSub] at hp
    exact absurd hp (h _ (List.getElem_mem hi))
theorem Rows.out (h : Rows n S) {a : Int} (ha : ¬ (0 ≤ a ∧ a < n)) : ofP (pairsP n S) a = -1 := ofP_none fun s hs hin => by
  obtain ⟨k, hk⟩ := List.getElem?_of_mem hs
  have := h.sub hk
  omega
theorem ofP_get {subs : List (Int × Int)} {a : Int} {k : Nat} (h : ofP subs a = k) : ∃ s, subs[k]? = some s ∧ s.1 ≤ a ∧ a < s.2 := by
  unfold ofP at h
  cases hf : subs.findIdx? (inSub a) with
  | none => rw [hf] at h; simp only at h; omega
  | some i =>
    obtain ⟨hi, hp, -⟩ := List.findIdx?_eq_some_iff_getElem.1 hf
    rw [hf] at h
    simp [inSub] at hp
    have e : i = k := by simp only at h; omega
    subst e
    exact ⟨_, List.getElem?_eq_getElem hi, hp⟩
/-- Each slot is in one. -/
theorem pairs_cover (n : Int) : ∀ (S : List Int) (a z : Int), S.head? = some z → z ≤ a → a < n → ∃ (k : Nat) (s : Int × Int), (pairsP n S)[k]? = some s ∧ s.1 ≤ a ∧ a < s.2
  | [], a, z, h, _, _ => by simp at h
  | [x], a, z, h, h1, h2 => by
    simp at h; subst h
    exact ⟨0, (x, n), by simp [pairsP], h1, h2⟩
  | x :: y :: r, a, z, h, h1, h2 => by
    simp at h; subst h
    by_cases e : a < y
    · exact ⟨0, (x, y), by simp [pairsP], h1, e⟩
    · obtain ⟨k, s, h3, h4⟩ := pairs_cover n (y :: r) a y rfl (by omega) h2
      exact ⟨k + 1, s, by simpa [pairsP] using h3, h4⟩
theorem Rows.cover (h : Rows n S) {a : Int} (h0 : 0 ≤ a) (h1 : a < n) : ∃ (k : Nat) (s : Int × Int), (pairsP n S)[k]? = some s ∧ s.1 ≤ a ∧ a < s.2 := pairs_cover n S a 0 h.zero h0 h1
theorem Rows.begin (h : Rows n S) {x : Int} (hx : x ∈ S) : ∃ (k : Nat) (s : Int × Int), (pairsP n S)[k]? = some s ∧ s.1 = x := by
  have := pairs_fst n S
  rw [← this, List.mem_map] at hx
  obtain ⟨s, hs, rfl⟩ := hx
  obtain ⟨k, hk⟩ := List.getElem?_of_mem hs
  exact ⟨k, s, hk, rfl⟩
end
section
variable {l : List Ins}
theorem starts_mem (x : Int) : x ∈ startsP l ↔ x = 0 ∨ ∃ a ∈ allP l, calleeP l a = some x := by
  unfold startsP
  rw [riseU_mem, List.mem_cons, List.mem_filterMap]
theorem firstP_neg {f : Int → Bool} : ¬ 0 ≤ firstP f l ↔ ∀ a ∈ allP l, f a = false := by
  unfold firstP
  cases h : (allP l).find? f with
  | none =>
    rw [List.find?_eq_none] at h
    simp only [Bool.not_eq_true] at h
    exact ⟨fun _ => h, fun _ => by show ¬ (0 : Int) ≤ -1; omega⟩
  | some a =>
    have h1 := List.find?_some h
    have h2 := List.mem_of_find?_eq_some h
    have := allP_bd h2
    exact ⟨fun g => by simp only at g; omega, fun g => by rw [g a h2] at h1; cases h1⟩
/-- No instruction strays. -/
structure Straight (l : List Ins) : Prop where
  pos : 0 < l.length
  whole : ∀ a ∈ allP l, wholeP l a = true
  strays : ∀ a ∈ allP l, straysP l (allP l) a = false
theorem Straight.callee (h : Straight l) {a t : Int} (ha : a ∈ allP l) (ht : calleeP l a = some t) : t ∈ allP l := by
  have := h.strays a ha
  unfold straysP at this
  rw [ht] at this
  simp at this
  exact this.2.1
theorem Straight.next (h : Straight l) {a t : Int} (ha : a ∈ allP l) (ht : t ∈ nextP l a) : 0 ≤ t ∧ (t < (l.length : Int) → t ∈ allP l) := by
  have := h.strays a ha
  unfold straysP at this
  simp only [Bool.or_eq_false_iff, List.any_eq_false] at this
  have := this.1 t ht
  unfold lostP at this
  simp at this
  exact this
theorem Straight.starts (h : Straight l) {x : Int} (hx : x ∈ startsP l) : x ∈ allP l := by
  rcases (starts_mem x).1 hx with rfl | ⟨a, ha, ht⟩
  · exact allP_zero h.pos
  · exact h.callee ha ht
theorem Straight.rows (h : Straight l) : Rows (l.length : Int) (startsP l) := by
  have hr : Rising (startsP l) := riseU_rising _
  refine ⟨List.pairwise_append.2 ⟨hr, List.pairwise_singleton _ _, fun a ha b hb => ?_⟩, ?_⟩
  · obtain rfl := List.mem_singleton.1 hb
    exact (allP_bd (h.starts ha)).2
  · have h0 : (0 : Int) ∈ startsP l := (starts_mem 0).2 (.inl rfl)
    cases hs : startsP l with
    | nil => rw [hs] at h0; simp at h0
    | cons x r =>
      rw [hs] at h0 hr
      have hx := (allP_bd (h.starts (x := x) (by rw [hs]; simp))).1
      rcases List.mem_cons.1 h0 with e | e
      · simp [e]
      · have := (List.pairwise_cons.1 hr).1 0 e
        omega
theorem Straight.starts_len (h : Straight l) : (startsP l).length ≤ l.length := rising_len _ (riseU_rising _) fun x hx => allP_bd (h.starts hx)
theorem subs_len : (subsP l).length = (startsP l).length := pairs_length _ _
/-- And none leaves its subprogram. -/
structure Kept (l : List Ins) : Prop extends Straight l where
  leaves : ∀ a ∈ allP l, leavesP l (subsP l) a = false
theorem Kept.next (h : Kept l) {a t : Int} (ha : a ∈ allP l) (ht : t ∈ nextP l a) : t ∈ allP l ∧ ofP (subsP l) t = ofP (subsP l) a := by
  have h1 := h.leaves a ha
  unfold leavesP at h1
  rw [List.any_eq_false] at h1
  have h2 := h1 t ht
  simp at h2
  refine ⟨?_, h2⟩
  have h3 := h.toStraight.next ha ht
  refine h3.2 ?_
  have hb := allP_bd ha
  obtain ⟨k, s, hk, hs⟩ := h.rows.cover hb.1 hb.2
  have h4 : ofP (subsP l) a = k := h.rows.of hk hs
  by_cases e : t < (l.length : Int)
  · exact e
  · have h5 : ofP (subsP l) t = -1 := h.rows.out (by omega)
    omega
theorem Kept.comes (h : Kept l) {a t : Int} (hc : Comes (nextP l) a t) (ha : a ∈ allP l) : t ∈ allP l ∧ ofP (subsP l) t = ofP (subsP l) a := by
  induction hc with
  | here => exact ⟨ha, rfl⟩
  | step h1 _ ih =>
    have := h.next ha h1
    have g := ih this.1
    exact ⟨g.1, g.2.trans this.2⟩
theorem nextP_len1 (a : Int) : (nextP l a).length ≤ 2 := by
  unfold nextP
  repeat' split
  all_goals simp
theorem subs_fst : (subsP l).map (·.1) = startsP l := pairs_fst _ _
theorem Kept.seenN (h : Kept l) : walkP (nextP l) (fuelN l) ((subsP l).map (·.1)) [] = some (seenN l (subsP l)) := by
  obtain ⟨s, hs⟩ := walkP_ends (steps := nextP l) (allP l) (fun x hx y hy => (h.next hx hy).1) 2 (fun x _ => nextP_len1 x) (fuelN l) ((subsP l).map (·.1)) [] (fun x hx => by rw [subs_fst] at hx; exact h.starts hx) List.nodup_nil (by simp) (by
    rw [subs_fst]
    have := h.starts_len
    have := allP_len l
    unfold fuelN
    simp only [List.length_nil]
    omega)
  rw [hs]
  unfold Go.Proofs.Ytibghcmkmbamjaa.seenN
  rw [hs]
  rfl
theorem Kept.mem_seenN (h : Kept l) (x : Int) : x ∈ Go.Proofs.Ytibghcmkmbamjaa.seenN l (subsP l) ↔ ∃ t ∈ startsP l, Comes (nextP l) t x := by
  rw [walkP_iff h.seenN, subs_fst]
theorem mem_callsP {subs : List (Int × Int)} {k j : Int} : j ∈ callsP l subs k ↔ ∃ a ∈ allP l, ∃ t, calleeP l a = some t ∧ kindP l a = 7 ∧ ofP subs a = k ∧ ofP subs t = j := by
  unfold callsP
  rw [List.mem_filterMap]
  constructor
  · rintro ⟨a, ha, h⟩
    cases hc : calleeP l a with
    | none => rw [hc] at h; cases h
    | some t =>
      rw [hc] at h
      simp only at h
      split at h
      · rename_i hk
        cases h
        exact ⟨a, ha, t, hc, hk.1, hk.2, rfl⟩
      · cases h
  · rintro ⟨a, ha, t, hc, h1, h2, h3⟩
    exact ⟨a, ha, by rw [hc]; simp [h1, h2, h3]⟩
theorem Straight.of_start (h : Straight l) {x : Int} (hx : x ∈ startsP l) : ∃ k : Nat, k < (subsP l).length ∧ ofP (subsP l) x = k := by
  obtain ⟨k, s, hk, hs⟩ := h.rows.begin hx
  have hb := h.rows.sub hk
  exact ⟨k, (List.getElem?_eq_some_iff.1 hk).1, h.rows.of hk (by omega)⟩
theorem Straight.calls_in (h : Straight l) {k j : Int} (hj : j ∈ callsP l (subsP l) k) : 0 ≤ j ∧ j < ((subsP l).length : Int) := by
  obtain ⟨a, ha, t, hc, h1, h2, h3⟩ := mem_callsP.1 hj
  obtain ⟨i, hi, hi2⟩ := h.of_start ((starts_mem t).2 (.inr ⟨a, ha, hc⟩))
  rw [hi2] at h3
  omega
theorem callsP_len (subs : List (Int × Int)) (k : Int) : (callsP l subs k).length ≤ l.length := by
  unfold callsP
  exact Nat.le_trans (List.length_filterMap_le _ _) (allP_len l)
theorem Straight.seenC (h : Straight l) (k : Int) : walkP (callsP l (subsP l)) (fuelC l (subsP l)) (callsP l (subsP l) k) [] = some (seenC l (subsP l) k) := by
  obtain ⟨s, hs⟩ := walkP_ends (steps := callsP l (subsP l)) ((List.range (subsP l).length).map fun i : Nat => (i : Int)) (fun x hx y hy => by
      have := h.calls_in hy
      exact List.mem_map.2 ⟨y.toNat, List.mem_range.2 (by omega), by omega⟩) l.length (fun x _ => callsP_len _ x) (fuelC l (subsP l)) (callsP l (subsP l) k) [] (fun x hx => by
      have := h.calls_in hx
      exact List.mem_map.2 ⟨x.toNat, List.mem_range.2 (by omega), by omega⟩) List.nodup_nil (by simp) (by
    have := callsP_len (l := l) (subsP l) k
    unfold fuelC
    simp only [List.length_nil, List.length_map, List.length_range, Nat.sub_zero]
    have e : ((subsP l).length + 2) * (l.length + 2) = (subsP l).length * l.length + 2 * (subsP l).length + 2 * l.length + 4 := by
      rw [Nat.add_mul, Nat.mul_add]; omega
    omega)
  rw [hs]
  unfold Go.Proofs.Ytibghcmkmbamjaa.seenC
  rw [hs]
  rfl
theorem Straight.mem_seenC (h : Straight l) (k x : Int) : x ∈ Go.Proofs.Ytibghcmkmbamjaa.seenC l (subsP l) k ↔ ∃ t ∈ callsP l (subsP l) k, Comes (callsP l (subsP l)) t x := walkP_iff (h.seenC k) x
/-- What Check takes. -/
structure Fine (l : List Ins) : Prop extends Kept l where
  le : l.length ≤ 1024
  few : (subsP l).length ≤ 32
  reach : ∀ a ∈ allP l, a ∈ Go.Proofs.Ytibghcmkmbamjaa.seenN l (subsP l)
  loops : ∀ k : Nat, k < (subsP l).length → (k : Int) ∉ Go.Proofs.Ytibghcmkmbamjaa.seenC l (subsP l) k
theorem loopF_neg (subs : List (Int × Int)) : ∀ (r : List (Int × Int)) (k : Nat), (∀ s ∈ r, 0 ≤ s.1) → (¬ 0 ≤ loopF l subs k r ↔ ∀ j, j < r.length → ((k + j : Nat) : Int) ∉ Go.Proofs.Ytibghcmkmbamjaa.seenC l subs ((k + j : Nat) : Int))
  | [], k, _ => by simp [loopF]
  | s :: r, k, h => by
    rw [loopF]
    split
    · rename_i hk
      have := h s (by simp)
      constructor
      · intro g; exact absurd this g
      · intro g; exact absurd hk (by simpa using g 0 (by simp))
    · rename_i hk
      rw [loopF_neg subs r (k + 1) (fun s hs => h s (by simp [hs]))]
      constructor
      · intro g j hj
        cases j with
        | zero => exact hk
        | succ j =>
          have := g j (by simpa using hj)
          rwa [show k + 1 + j = k + (j + 1) by omega] at this
      · intro g j hj
        have := g (j + 1) (by simpa using hj)
        rwa [show k + (j + 1) = k + 1 + j by omega] at this
theorem check_fine (h : (checkP l).2.2 = 0) : Fine l := by
  unfold checkP at h
  split at h
  · cases h
  rename_i h0
  split at h
  · cases h
  rename_i h1
  split at h
  · cases h
  rename_i h2
  split at h
  · cases h
  rename_i h3
  split at h
  · cases h
  rename_i h4
  split at h
  · cases h
  rename_i h5
  split at h
  · cases h
  rename_i h6
  split at h
  · cases h
  rename_i h7
  rw [firstP_neg] at h2 h3 h5 h6
  have hS : Straight l := ⟨by omega, fun a ha => by simpa using h2 a ha, h3⟩
  have hsub : ∀ s ∈ subsP l, 0 ≤ s.1 := fun s hs => by
    obtain ⟨k, hk⟩ := List.getElem?_of_mem hs
    exact (hS.rows.sub hk).1
  rw [loopF_neg _ _ _ hsub] at h7
  exact { toStraight := hS, leaves := h5, le := by omega, few := by omega, reach := fun a ha => by simpa using h6 a ha, loops := fun k hk => by simpa using h7 k hk }
theorem Fine.check (h : Fine l) : checkP l = (subsP l, 0, 0) := by
  have hpos := h.pos
  have hsub : ∀ s ∈ subsP l, 0 ≤ s.1 := fun s hs => by
    obtain ⟨k, hk⟩ := List.getElem?_of_mem hs
    exact (h.rows.sub hk).1
  unfold checkP
  rw [if_neg (by omega), if_neg (by have := h.le; omega), if_neg (firstP_neg.2 fun a ha => by simp [h.whole a ha]), if_neg (firstP_neg.2 h.strays), if_neg (by have := h.few; omega), if_neg (firstP_neg.2 h.leaves), if_neg (firstP_neg.2 fun a ha => by simp [h.reach a ha]), if_neg ((loopF_neg _ _ _ hsub).2 fun j hj => by simpa using h.loops j hj)]
theorem check_err (h : (checkP l).2.2 ≠ 0) : (checkP l).1 = [] := by
  unfold checkP at h ⊢
  repeat' split
  all_goals first | rfl | skip
  rename_i h0 h1 h2 h3 h4 h5 h6 h7
  rw [if_neg h0, if_neg h1, if_neg h2, if_neg h3, if_neg h4, if_neg h5, if_neg h6, if_neg h7] at h
  exact absurd rfl h
end
end Go.Proofs.Ytibghcmkmbamjaa
end
