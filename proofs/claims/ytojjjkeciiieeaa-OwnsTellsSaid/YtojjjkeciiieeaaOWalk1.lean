/- owns: there, Holds; sorted, compacted rows. -/
import Derived.Test.YtojjjkeciiieeaaProg
import Derived.Test.YtojjjkeciiieeaaOModel
import Derived.Test.YtojjjkeciiieeaaPartLib
import Derived.Test.YtojjjkeciiieeaaByteLib
import Derived.Test.YtojjjkeciiieeaaShelf
import Derived.Sort.OwnSortedInts
import Derived.WalkKit
import Derived.RegionTactic
import Derived.BigRegion
import Derived.Deep.QuietTactic
import Derived.BigQuiet
import Derived.WalkSpells
import Derived.WalkLawsBesides
import Derived.KernelRfl
import Derived.Outline
import Derived.StillTailTactics
import Derived.Deep.LoopGhost
import Derived.IntWalk
import Derived.Deep.DeepCutAuto
import Derived.Deep.CutBlock
namespace Go.Proofs.Ytojjjkeciiieeaa
open Go.RowKit
set_option linter.unusedVariables false
set_option linter.unusedSimpArgs false
set_option linter.unusedSectionVars false
def encI (a : Int) : List Value := [.int .i64 a]
def encF (f : Fld) : List Value := [.string f.name, .int .u8 f.kind, .int .i64 f.pos, .int .i64 f.of, .int .i64 f.node]
/-- A table in memory. -/
def TabAt (w : World) (v : Value) (t : Tab) : Prop := ∃ A c, v = .slice A t.length c ∧ ∀ i ty, t[i]? = some ty → ∃ b off Af cf, A = some ⟨b, off, none⟩ ∧ w.cell? ⟨b, off + i * 3, none⟩ = some (.string ty.name) ∧ w.cell? ⟨b, off + i * 3 + 1, none⟩ = some (.int .i64 ty.size) ∧ w.cell? ⟨b, off + i * 3 + 2, none⟩ = some (.slice Af ty.fs.length cf) ∧ RowsAt w Af 5 (ty.fs.map encF)
theorem TabAt.keep {w w' : World} {v : Value} {t : Tab} (h : TabAt w v t) (u : Upd [] w w') : TabAt w' v t := by
  obtain ⟨A, c, e, h⟩ := h
  refine ⟨A, c, e, fun i ty hi => ?_⟩
  obtain ⟨b, off, Af, cf, h1, h2, h3, h4, h5⟩ := h i ty hi
  exact ⟨b, off, Af, cf, h1, u.cell h2 (by simp), u.cell h3 (by simp), u.cell h4 (by simp), h5.keep u⟩
/-- Small enough to go through. -/
def Fits (t : Tab) : Prop := t.length ≤ 1000 ∧ ∀ ty ∈ t, ty.fs.length ≤ 1000
theorem fieldsOf_at {t : Tab} {i : Nat} {ty : Ty} (h : t[i]? = some ty) : fieldsOf t (i : Int) = ty.fs := by
  unfold fieldsOf
  rw [if_pos (by omega)]
  simp [h]
section
theorem there_no (A : Option Addr) (len c : Nat) (i : Int) (w : World) (h : ¬ (0 ≤ i ∧ i < (len : Int))) : Calls Try.prog 23 #[.slice A len c, .int .i64 i] w fun e w' => e = .returned (.bool false) ∧ w = w' := by
  by_cases c0 : 0 ≤ i
  · have z1 : decide (0 ≤ i) = true := decide_eq_true c0
    have z2 : decide (i < (len : Int)) = false := decide_eq_false (by omega)
    go_enter Try.func23, Try.ntmps23
    go_wp2_with fail
    go_ret
    exact ⟨rfl, rfl⟩
  · have z1 : decide (0 ≤ i) = false := decide_eq_false c0
    go_enter Try.func23, Try.ntmps23
    go_wp2_with fail
    go_ret
    exact ⟨rfl, rfl⟩
theorem there_yes (A : Option Addr) (len c : Nat) (i : Int) (w : World) (h0 : 0 ≤ i) (h1 : i < (len : Int)) : Calls Try.prog 23 #[.slice A len c, .int .i64 i] w fun e w' => e = .returned (.bool true) ∧ w = w' := by
  have z1 : decide (0 ≤ i) = true := decide_eq_true h0
  have z2 : decide (i < (len : Int)) = true := decide_eq_true h1
  go_enter Try.func23, Try.ntmps23
  go_wp2_with fail
  go_ret
  exact ⟨rfl, rfl⟩
theorem there_any (A : Option Addr) (len c : Nat) (i : Int) (w : World) : Calls Try.prog 23 #[.slice A len c, .int .i64 i] w fun e w' => e = .returned (.bool (decide (0 ≤ i ∧ i < (len : Int)))) ∧ w = w' := by
  by_cases h : 0 ≤ i ∧ i < (len : Int)
  · rw [decide_eq_true h]; exact there_yes A len c i w h.1 h.2
  · rw [decide_eq_false h]; exact there_no A len c i w h
end
def kidx (x : Int) : Int := if x = 1 then 0 else if x = 2 then 1 else if x = 4 then 2 else -1
def kinds3 : Obj := .cells #[.int .u8 1, .int .u8 2, .int .u8 4] 5 (0, 0)
set_option maxRecDepth 100000 in
theorem index36 (w : World) (b : Nat) (hb : w.heap[b]? = some kinds3) (x : Int) :
    Calls Try.prog 36 #[.slice (some ⟨b, 0, none⟩) 3 3, .int .u8 x] w fun e w' => e = .returned (.int .i64 (kidx x)) ∧ w = w' := by
  have c0 := cell_of hb 0
  have c1 := cell_of hb 1
  have c2 := cell_of hb 2
  simp only [List.getElem?_toArray, List.getElem?_cons_zero, List.getElem?_cons_succ] at c0 c1 c2
  clear hb
  go_enter Try.func36, Try.ntmps36
  go_wp2_with fail
  go_loopg [8] 3 (fun kq v8 w' => ∃ i : Nat, v8 = .int .i64 (i : Int) ∧ kq + i = 3 ∧ w = w' ∧ (0 < i → x ≠ 1) ∧ (1 < i → x ≠ 2) ∧ (2 < i → x ≠ 4))
  case atStart => exact ⟨0, rfl, rfl, rfl, by omega, by omega, by omega⟩
  case round =>
    obtain ⟨i, rfl, hk, rfl, h1, h2, h3⟩ := hrel
    have hi4 : i = 0 ∨ i = 1 ∨ i = 2 ∨ i = 3 := by omega
    rcases hi4 with rfl | rfl | rfl | rfl
    · by_cases e : x = 1
      · have HH : Unit → x = 1 := fun _ => e
        have z : (x == 1) = true := by simp [e]
        clear e h1 h2 h3
        go_wp2_with fail
        go_ret
        exact ⟨by rw [HH ()]; rfl, rfl⟩
      · have z : (x == 1) = false := by simp [e]
        clear h1 h2 h3
        go_wp2_with fail
        go_roundg (gk - 1)
        case measure => omega
        case rel => exact ⟨1, by go_num, by omega, rfl, fun _ => e, by omega, by omega⟩
    · have n1 := h1 (by omega)
      by_cases e : x = 2
      · have HH : Unit → x = 2 := fun _ => e
        have z : (x == 2) = true := by simp [e]
        clear e h1 h2 h3 n1
        go_wp2_with fail
        go_ret
        exact ⟨by rw [HH ()]; rfl, rfl⟩
      · have z : (x == 2) = false := by simp [e]
        clear h1 h2 h3
        go_wp2_with fail
        go_roundg (gk - 1)
        case measure => omega
        case rel => exact ⟨2, by go_num, by omega, rfl, fun _ => n1, fun _ => e, by omega⟩
    · have n1 := h1 (by omega)
      have n2 := h2 (by omega)
      by_cases e : x = 4
      · have HH : Unit → x = 4 := fun _ => e
        have z : (x == 4) = true := by simp [e]
        clear e h1 h2 h3 n1 n2
        go_wp2_with fail
        go_ret
        exact ⟨by rw [HH ()]; rfl, rfl⟩
      · have z : (x == 4) = false := by simp [e]
        clear h1 h2 h3
        go_wp2_with fail
        go_roundg (gk - 1)
        case measure => omega
        case rel => exact ⟨3, by go_num, by omega, rfl, fun _ => n1, fun _ => n2, fun _ => e⟩
    · have HH : Unit → kidx x = -1 := fun _ => by
        unfold kidx
        rw [if_neg (h1 (by omega)), if_neg (h2 (by omega)), if_neg (h3 (by omega))]
      clear h1 h2 h3
      go_wp2_with fail
      go_ret
      exact ⟨by rw [HH ()]; rfl, rfl⟩
theorem contains24 (w : World) (b : Nat) (hb : w.heap[b]? = some kinds3) (x : Int) :
    Calls Try.prog 24 #[.slice (some ⟨b, 0, none⟩) 3 3, .int .u8 x] w fun e w' => e = .returned (.bool (okk x)) ∧ w = w' := by
  obtain ⟨r, hr, hd⟩ : ∃ r : Int, kidx x = r ∧ okk x = decide (0 ≤ r) := by
    unfold okk kidx
    by_cases h1 : x = 1
    · exact ⟨0, by simp [h1], by simp [h1]⟩
    · by_cases h2 : x = 2
      · exact ⟨1, by simp [h2], by simp [h2]⟩
      · by_cases h4 : x = 4
        · exact ⟨2, by simp [h4], by simp [h4]⟩
        · exact ⟨-1, by simp [h1, h2, h4], by simp [h1, h2, h4]⟩
  have hi := index36 w b hb x
  rw [hr] at hi
  rw [hd]
  clear hr hd hb
  go_enter Try.func24, Try.ntmps24
  go_wp2_with (go_at_call 36; (with_reducible refine hi.mono ?_); rintro e w1 ⟨rfl, rfl⟩)
  go_ret
  exact ⟨rfl, rfl⟩
section
variable {w0 w : World} {K : List (Nat × Obj)} {T : Res} [Good T]
theorem sort25 {v : Value} {l : List Int} (H : SepK w0 w K (star (rowR 3 1 v (l.map encI)) T)) (hl : l.length ≤ 100000) :
    Calls Try.prog 25 #[v] w fun e w' => e = .returned (.tuple #[]) ∧ SepK w0 w' K (star (rowR 3 1 v ((l.mergeSort fun x y => decide (x ≤ y)).map encI)) T) := by
  have e1 : ∀ m : List Int, (m.map encI).flatten = m.map (Value.int .i64) := fun m => by
    induction m with
    | nil => rfl
    | cons a m ih => simp only [List.map_cons, List.flatten_cons, ih]; rfl
  refine H.call1 fun N hN hf => ?_
  obtain ⟨h1, h2, h3⟩ := hN
  rcases h1.2 with ⟨rfl, hn⟩ | ⟨g, cap, cur, rfl, hb, hg, hc, hm, hcs, ht⟩
  · have : l = [] := List.eq_nil_of_length_eq_zero (by simpa using hn)
    subst this
    refine (AnyM.slices_Sort_int_none Try.sortI none 0 w).mono fun e w' ⟨a, b⟩ => ⟨a, ?_⟩
    subst b
    rw [List.mergeSort_nil]
    exact ⟨⟨h1, h2, h3⟩, .of (Upd.refl [] w')⟩
  · rw [List.length_map] at hc ht
    rw [Nat.mul_one, e1] at ht
    have hH := holds_of_blockI hg ht
    have := AnyM.slices_Sort_int Try.sortI g 0 cap l w hH (lt_of_heap hg) (by omega)
    rw [List.length_map]
    refine this.mono fun e w' ⟨a, n, os, b⟩ => ⟨a, ?_⟩
    subst b
    have ho := ownsRow_sortedI (w := w) (base := 0) (n := n) (os := os) (ss := l) (ts := l.mergeSort fun x y => decide (x ≤ y)) (by simp) (Nat.zero_le _) hg hc hm hcs
    refine ⟨⟨?_, ?_, h3⟩, .of1 (.of_grown (grownBy_sortedI _)) (h3 g rfl)⟩
    · rw [e1]
      have e2 : ((l.mergeSort fun x y => decide (x ≤ y)).map encI).length = l.length := by simp
      rw [e2]
      exact ho
    · intro r hr
      obtain ⟨x, _, rfl⟩ := List.mem_map.1 hr
      rfl
theorem compact26 {v : Value} {l : List Int} (H : SepK w0 w K (star (rowR 3 1 v (l.map encI)) T)) (hl : l.length ≤ 100000) :
    Calls Try.prog 26 #[v] w fun e w' => ∃ v', e = .returned v' ∧ SepK w0 w' K (star (rowR 3 1 v' ((Go.Lib.compact l).map encI)) T) := by
  have e1 : ∀ m : List Int, (m.map encI).flatten = m.map (Value.int .i64) := fun m => by
    induction m with
    | nil => rfl
    | cons a m ih => simp only [List.map_cons, List.flatten_cons, ih]; rfl
  refine H.call fun N hN hf => ?_
  obtain ⟨h1, h2, h3⟩ := hN
  rcases h1.2 with ⟨rfl, hn⟩ | ⟨g, cap, cur, rfl, hb, hg, hc, hm, hcs, ht⟩
  · have : l = [] := List.eq_nil_of_length_eq_zero (by simpa using hn)
    subst this
    refine (AnyG.slices_Compact_int_empty Try.compactI none 0 w).mono fun e w' ⟨a, b⟩ => ⟨_, a, ?_⟩
    subst b
    exact ⟨⟨h1, h2, h3⟩, .of (Upd.refl [] w')⟩
  · rw [List.length_map] at hc ht
    rw [Nat.mul_one, e1] at ht
    have hH := holds_of_blockI hg ht
    have hcl : (Go.Lib.compact l).length ≤ l.length := by
      unfold Go.Lib.compact Go.Lib.compactUpTo
      rw [List.length_map]
      exact Nat.le_trans (List.length_filter_le _ _) (by simp)
    have := AnyG.slices_Compact_int Try.compactI g 0 cap l w hH (by omega) hc
    rw [List.length_map]
    refine this.mono fun e w' ⟨a, n, b⟩ => ⟨_, a, ?_⟩
    subst b
    have hgr : ∀ X : World, X = Go.Sort.grow X #[] := fun X => (Go.Sort.grow_empty X).symm
    rw [hgr (Go.Sort.putRow _ _ _ _ _)]
    have hz : (Go.Lib.compact l ++ List.replicate (l.length - (Go.Lib.compact l).length) 0).length = l.length := by simp; omega
    have ho := ownsRow_sortedI (w := w) (base := 0) (n := n) (os := #[]) (ss := l) (ts := Go.Lib.compact l ++ List.replicate (l.length - (Go.Lib.compact l).length) 0) hz (Nat.zero_le _) hg hc hm hcs
    refine ⟨⟨?_, ?_, fun g' hg' => by cases hg'; exact h3 g rfl⟩, .of1 (.of_grown (grownBy_sortedI _)) (h3 g rfl)⟩
    · rw [e1, List.length_map]
      rcases ho.2 with ⟨h, _⟩ | ⟨g', cap', cur', e5, _, hg', hc', hm', hcs', ht'⟩
      · cases h
      · cases e5
        refine ⟨by simp, .inr ⟨g, cap, cur', rfl, Nat.zero_le _, hg', by omega, hm', hcs', ?_⟩⟩
        have e6 : cur'.toList.take ((Go.Lib.compact l).length * 1) = (cur'.toList.take (l.length * 1)).take (Go.Lib.compact l).length := by
          rw [List.take_take, Nat.mul_one, Nat.mul_one, Nat.min_eq_left hcl]
        rw [e6, ht', List.map_append, List.take_left' (by simp)]
    · intro r hr
      obtain ⟨x, _, rfl⟩ := List.mem_map.1 hr
      rfl
end
end Go.Proofs.Ytojjjkeciiieeaa
