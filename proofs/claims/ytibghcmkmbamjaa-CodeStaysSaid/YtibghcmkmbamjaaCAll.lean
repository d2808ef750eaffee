/- code: all beginnings, one behind another (the iterator). -/
import Derived.Test.YtibghcmkmbamjaaGObj
import Derived.RangeFuncNested
import Derived.RangeFuncBound
import Derived.RangeFuncCalls
import Derived.RangeFuncLeaves
import Derived.Shelf.Abstract
import Derived.Shelf.RegionOpen
import Derived.OwnWalkIn
import Derived.TacticsInMore
import Derived.LoopNIn
import Derived.LoopIn
namespace Go.Proofs.Ytibghcmkmbamjaa
open Go.RowKit Go.Shelf
set_option linter.unusedVariables false
set_option linter.unusedSimpArgs false
set_option linter.unusedSectionVars false
attribute [local go_sem] Oper.semAt_some
/-- The blocks of which X tells are kept. -/
def Kp (X : Nat → Prop) (W W' : World) : Prop := ∀ b, X b → W'.heap[b]? = W.heap[b]?
theorem Kp.refl (X : Nat → Prop) (W : World) : Kp X W W := fun _ _ => rfl
theorem Kp.trans {X : Nat → Prop} {A B C : World} (h : Kp X A B) (g : Kp X B C) : Kp X A C := fun b h1 => (g b h1).trans (h b h1)
theorem Kp.upd {X : Nat → Prop} {W W' : World} (u : Upd [] W W') (hn : ∀ b, X b → b < W.heap.size) : Kp X W W' := fun b h1 => by
  obtain ⟨o, ho⟩ : ∃ o, W.heap[b]? = some o := ⟨W.heap[b]'(hn b h1), Array.getElem?_eq_getElem (hn b h1)⟩
  rw [ho]
  exact u.heap ho (by simp)
/-- A beginning. -/
abbrev Bg (l : List Ins) := { x : Int // x ∈ allP l }
/-- The program, as far as the iterator reads it. -/
structure Prl (X : Nat → Prop) (w : World) (Bn p : Nat) (A : Option Addr) (c : Nat) (l : List Ins) : Prop where
  box : w.heap[Bn]? = some (.cells #[.pointer (some ⟨p, 0, none⟩)] 82 (0, 0))
  bn : X Bn
  blk : ∃ vm vS, w.heap[p]? = some (.cells #[.slice A l.length c, vm, vS] 85 (0, 0))
  pn : X p
  row : RowsAt w A 5 (l.map encN)
  rn : ∀ b off, A = some ⟨b, off, none⟩ → X b
  ok : ∀ x ∈ l, OkI x
  len : l.length ≤ 1024
section
variable {X : Nat → Prop} {Bn p c : Nat} {A : Option Addr} {l : List Ins}
theorem Prl.keep {w w' : World} (h : Prl X w Bn p A c l) (k : Kp X w w') : Prl X w' Bn p A c l := by
  obtain ⟨vm, vS, hb⟩ := h.blk
  refine ⟨(k Bn h.bn).trans h.box, h.bn, ⟨vm, vS, (k p h.pn).trans hb⟩, h.pn, fun i r hi => ?_, h.rn, h.ok, h.len⟩
  obtain ⟨b, off, e, hc⟩ := h.row i r hi
  have g1 := h.rn b off e
  refine ⟨b, off, e, fun j v hj => ?_⟩
  have := hc j v hj
  unfold World.cell? at this ⊢
  rw [k b g1]
  exact this
theorem Prl.keepU {w w' : World} (h : Prl X w Bn p A c l) (u : Upd [] w w') : Prl X w' Bn p A c l := by
  obtain ⟨vm, vS, hb⟩ := h.blk
  exact ⟨u.heap h.box (by simp), h.bn, ⟨vm, vS, u.heap hb (by simp)⟩, h.pn, h.row.keep u, h.rn, h.ok, h.len⟩
theorem grown_of {w w' : World} (u : Upd [] w w') : w.grownBy w' none := ⟨u.os, u.tape, u.output, u.size, fun k hk _ => u.block k hk (by simp)⟩
theorem allF_len : ∀ (f : Nat) (a : Int), (allF l f a).length ≤ f
  | 0, a => by simp [allF]
  | f + 1, a => by
    rw [allF]
    split
    · have := allF_len f (a + szK (kindP l a))
      simp; omega
    · simp
theorem all66 (w : World) : Calls Try.prog 66 #[.pointer (some ⟨p, 0, none⟩)] w fun e w' => e = .returned (.func (.func 99) #[] #[.pointer (some ⟨w.heap.size, 0, none⟩)]) ∧ w' = w.alloc (.cells #[.pointer (some ⟨p, 0, none⟩)] 82) := by
  go_enter Try.func66, Try.ntmps66
  go_wp2_with fail
  go_ret
  exact ⟨rfl, rfl⟩
def intV (v : Value) : Int := match v with | .int _ x => x | _ => 0
set_option maxRecDepth 100000 in
set_option maxHeartbeats 4000000 in
theorem all99_in (n : Nat) (hn : 1 ≤ n) (y : Nat) (J Jx : List (Bg l) → World → Prop)
    (hY : ∀ pre x W, J pre W → pre.length < l.length → YieldAt Fence.wide (n - 1) Try.prog y #[.int .i64 x.1] W fun e W' =>
      (e = .returned (.bool true) ∧ J (pre ++ [x]) W' ∧ Kp X W W') ∨ (e = .returned (.bool false) ∧ Jx (pre ++ [x]) W'))
    (W : World) (hP : Prl X W Bn p A c l) (h0 : J [] W) (hJ : ∀ pre W W', J pre W → Upd [] W W' → J pre W') :
    CallsIn Fence.wide n Try.prog 99 #[.func (.yield y) #[] #[], .pointer (some ⟨Bn, 0, none⟩)] W fun e W' => (∃ v, e = .returned v) ∧
      ((∃ ys : List (Bg l), ys.map (·.1) = allP l ∧ J ys W') ∨ (∃ pre : List (Bg l), pre.map (·.1) <+: allP l ∧ Jx pre W')) := by
  refine callsIn_of_wp Try.func99 rfl trivial ?_ rfl
  simp only [Try.ntmps99, List.size_toArray, List.length_cons, List.length_nil, Nat.reduceAdd, Nat.reduceSub, Array.replicate_succ, Array.replicate_zero, List.push_toArray, List.append_toArray, List.nil_append, List.cons_append]
  gi_wp2
  gi_loopw [3] (fun v3 wr => ∃ (pre : List (Bg l)) (a f : Nat), v3 = .int .i64 (a : Int) ∧ pre.map (·.1) ++ allF l f (a : Int) = allP l ∧ l.length ≤ a + f ∧ a ≤ l.length + 1 ∧ Prl X wr Bn p A c l ∧ J pre wr)
    (fun v wr => l.length + 2 - (intV v).toNat)
  case atStart =>
    exact ⟨[], 0, l.length, rfl, rfl, by omega, by omega, hP, h0⟩
  case round =>
    obtain ⟨pre, a, f, rfl, hx, hf, ha, hQ, hJs⟩ := hrel
    obtain ⟨vm, vS, hb⟩ := hQ.blk
    have c0 := cell_of hQ.box 0
    have c1 := cell_of hb 0
    simp only [List.getElem?_toArray, List.getElem?_cons_zero] at c0 c1
    by_cases hal : a < l.length
    · have z1 : decide ((a : Int) < (l.length : Int)) = true := decide_eq_true (by omega)
      obtain ⟨f', rfl⟩ : ∃ f', f = f' + 1 := ⟨f - 1, by omega⟩
      have hal' : allF l (f' + 1) (a : Int) = (a : Int) :: allF l f' ((a : Int) + szK (kindP l (a : Int))) := by
        rw [allF, if_pos (by omega)]
      rw [hal'] at hx
      have hmem : (a : Int) ∈ allP l := by rw [← hx]; simp
      obtain ⟨fn, tmps, assign, body, hy, hR⟩ := hY pre ⟨(a : Int), hmem⟩ wr hJs (by
        have h1 := congrArg List.length hx
        have h2 := allF_len (l := l) l.length 0
        simp only [List.length_append, List.length_map, List.length_cons] at h1
        unfold allP at h1
        omega)
      dsimp only at hy
      gi_wp2
      refine hR.mono ?_
      rintro e W3 (⟨rfl, hJ3, hk3⟩ | ⟨rfl, hJx3⟩)
      · have hQ3 := hQ.keep hk3
        obtain ⟨vm3, vS3, hb3⟩ := hQ3.blk
        have c0 := cell_of hQ3.box 0
        have c1 := cell_of hb3 0
        simp only [List.getElem?_toArray, List.getElem?_cons_zero] at c0 c1
        have hkc := kind85 c hQ3.row hQ3.ok (a : Int)
        have hsc := size86 (w := W3) (kindP l (a : Int))
        have hsb := szK_bd (kindP l (a : Int))
        obtain ⟨sz, hsz⟩ : ∃ sz : Nat, szK (kindP l (a : Int)) = (sz : Int) := ⟨(szK (kindP l (a : Int))).toNat, by omega⟩
        have hs86 : ∀ w, Calls Try.prog 86 #[.int .u8 (kindP l (a : Int))] w fun e w' => e = .returned (.int .i64 (sz : Int)) ∧ w = w' := fun w => by rw [← hsz]; exact size86 _
        rw [hsz] at hx hsb
        clear hsc hsz hal' hY hb hb3
        have hlen := hQ3.len
        generalize kindP l (a : Int) = k at hkc hs86
        have y1 : IntKind.i64.wrap ((a : Int) + (sz : Int)) = (a : Int) + (sz : Int) := IntWalk.i64_in _ (by omega)
        gi_wp2_with (first | (refine ⟨trivial, ?_⟩; gi_at_call 85; refine (callsIn_wide.2 hkc).mono ?_; rintro e W4 ⟨rfl, u4⟩) | (refine ⟨trivial, ?_⟩; gi_at_call 86; refine (callsIn_wide.2 (hs86 _)).mono ?_; rintro e W5 ⟨rfl, rfl⟩))
        go_roundw
        case rel => exact ⟨pre ++ [⟨(a : Int), hmem⟩], a + sz, f', by go_num, by rw [List.map_append]; push_cast; simpa using hx, by omega, by omega, hQ3.keepU u4, hJ _ _ _ hJ3 u4⟩
        case measure => simp [intV]; omega
      · gi_wp2
        go_end0
        exact ⟨⟨_, rfl⟩, .inr ⟨pre ++ [⟨(a : Int), hmem⟩], ⟨_, by rw [List.map_append]; simpa using hx⟩, hJx3⟩⟩
    · have z1 : decide ((a : Int) < (l.length : Int)) = false := decide_eq_false (by omega)
      gi_wp2
      refine ⟨fun _ h => (by cases h), ?_⟩
      gi_wp2
      go_end0
      exact ⟨⟨_, rfl⟩, .inl ⟨pre, by
        have e : allF l f (a : Int) = [] := by
          cases f with
          | zero => rfl
          | succ f => rw [allF, if_neg (by omega)]
        rw [e, List.append_nil] at hx
        exact hx, hJs⟩⟩
end
end Go.Proofs.Ytibghcmkmbamjaa
