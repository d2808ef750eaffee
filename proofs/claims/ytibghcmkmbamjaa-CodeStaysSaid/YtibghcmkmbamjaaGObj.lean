/- Own texts, laid one behind the other: PIx1, CFun, CObj, CObj2, CObj3, CLost, CSame. -/
import Derived.Test.YtibghcmkmbamjaaGPI
import Derived.Test.YtibghcmkmbamjaaCBase
import Derived.Test.YtibghcmkmbamjaaGNext
import Derived.Deep.RegionHeld3
section
namespace Go.Proofs.Ytibghcmkmbamjaa.PI
open Go.RowKit Go.Proofs.YtibghcmkmbamjaaW.PrintWords Go.Proofs.YtibghcmkmbamjaaW.PrintLast Go.Proofs.YtibghcmkmbamjaaW.PrintMore
attribute [local go_sem] max2_int min2_int max_two min_two max_three min_three max_four min_four   -- for this text's walks alone
set_option linter.unusedVariables false
set_option linter.unusedSimpArgs false

theorem eqA24 (d : Nat) (w : World) (x0 y0 : Int) (x1 y1 : Int) (x2 y2 : Int) (x3 y3 : Int) (x4 y4 : Int) :
    (Op.equalIn (d + 2) 24 (.agg #[.int .u8 x0, .int .u8 x1, .int .u8 x2, .int .i16 x3, .int .i32 x4]) (.agg #[.int .u8 y0, .int .u8 y1, .int .u8 y2, .int .i16 y3, .int .i32 y4])).run Try.prog w = .ok (x0 == y0 && (x1 == y1 && (x2 == y2 && (x3 == y3 && (x4 == y4))))) w := by
  refine eqA_of Try.underlying24 (by kernel_rfl) ?_
  refine eqf_cons (by rfl) (by go_simp; rfl) (by go_simp; rfl) (by go_simp) ?_
  refine eqf_cons (by rfl) (by go_simp; rfl) (by go_simp; rfl) (by go_simp) ?_
  refine eqf_cons (by rfl) (by go_simp; rfl) (by go_simp; rfl) (by go_simp) ?_
  refine eqf_cons (by rfl) (by go_simp; rfl) (by go_simp; rfl) (by go_simp) ?_
  exact eqf_last (by rfl) (by go_simp; rfl) (by go_simp; rfl) (by go_simp)
end Go.Proofs.Ytibghcmkmbamjaa.PI
end
section
namespace Go.Proofs.Ytibghcmkmbamjaa
open Go.RowKit
set_option linter.unusedVariables false
set_option linter.unusedSimpArgs false
set_option linter.unusedSectionVars false
section
variable {w : World} {A : Option Addr} {xs : List Int}
theorem cellZ {i : Nat} {x : Int} (hr : RowsAt w A 1 (xs.map encZi)) (hx : xs[i]? = some x) : ∃ b off, A = some ⟨b, off, none⟩ ∧ w.cell? ⟨b, off + i, none⟩ = some (.int .i64 x) := by
  obtain ⟨b, off, e, hc⟩ := hr i (encZi x) (by rw [List.getElem?_map, hx]; rfl)
  exact ⟨b, off, e, by simpa using hc 0 _ rfl⟩
def idxP {α : Type} (f : α → Bool) (xs : List α) : Int := match xs.findIdx? f with | some i => (i : Int) | none => -1
theorem idxP_some {α : Type} {f : α → Bool} {xs : List α} {i : Nat} {x : α} (hx : xs[i]? = some x) (hf : f x = true) (hn : ∀ j, j < i → ∀ y, xs[j]? = some y → f y = false) : idxP f xs = (i : Int) := by
  have hlt := (List.getElem?_eq_some_iff.1 hx).1
  have he := (List.getElem?_eq_some_iff.1 hx).2
  have : xs.findIdx? f = some i := by
    rw [List.findIdx?_eq_some_iff_getElem]
    refine ⟨hlt, by rw [he, hf], fun j hj => ?_⟩
    have := hn j hj _ (List.getElem?_eq_getElem (by omega))
    simp [this]
  unfold idxP
  rw [this]
theorem idxP_none {α : Type} {f : α → Bool} {xs : List α} (hn : ∀ y ∈ xs, f y = false) : idxP f xs = -1 := by
  have : xs.findIdx? f = none := by
    rw [List.findIdx?_eq_none_iff]
    intro q hq
    simp [hn q hq]
  unfold idxP
  rw [this]
theorem idxP_any {α : Type} (f : α → Bool) (xs : List α) : decide (0 ≤ idxP f xs) = xs.any f := by
  unfold idxP
  cases h : xs.findIdx? f with
  | none =>
    rw [List.findIdx?_eq_none_iff] at h
    have : xs.any f = false := by
      rw [List.any_eq_false]
      intro x hx
      simp [h x hx]
    rw [this]
    rfl
  | some i =>
    rw [List.findIdx?_eq_some_iff_getElem] at h
    obtain ⟨hlt, hp, _⟩ := h
    have : xs.any f = true := List.any_eq_true.2 ⟨xs[i], List.getElem_mem _, hp⟩
    rw [this]
    simp
/-- What a function value answers, whatever was laid since. -/
def Answers {α : Type} (w : World) (g : Nat) (bd cp : Array Value) (enc : α → Value) (dom : α → Prop) (f : α → Bool) : Prop :=
  ∀ x, dom x → ∀ W, Upd [] w W → Calls Try.prog g (bd.push (enc x) ++ cp) W fun e W' => e = .returned (.bool (f x)) ∧ Upd [] W W'
set_option maxRecDepth 100000 in
set_option maxHeartbeats 4000000 in
theorem idx114 (c : Nat) (hr : RowsAt w A 1 (xs.map encZi)) (hl : xs.length ≤ 100000) (g : Nat) (bd cp : Array Value) (eg : ∀ args w, (callFunc g args).run Try.prog w = .ok (.enter g args) w) (f : Int → Bool) (hf : Answers w g bd cp (fun x : Int => Value.int .i64 x) (· ∈ xs) f) :
    Calls Try.prog 114 #[.slice A xs.length c, .func (.func g) bd cp] w fun e w' => e = .returned (.int .i64 (idxP f xs)) ∧ Upd [] w w' := by
  go_enter Try.func114, Try.ntmps114
  go_wp2_with fail
  go_loopg [8] xs.length (fun kq v8 w' => ∃ i : Nat, v8 = .int .i64 (i : Int) ∧ kq + i = xs.length ∧ Upd [] w w' ∧ ∀ j, j < i → ∀ y, xs[j]? = some y → f y = false)
  case atStart => exact ⟨0, rfl, rfl, Upd.refl _ _, fun j hj => by omega⟩
  case round =>
    obtain ⟨i, rfl, hk, hU, hn⟩ := hrel
    by_cases hi : i < xs.length
    · have z1 : decide ((i : Int) < (xs.length : Int)) = true := decide_eq_true (by omega)
      have z2 : (0 : Int) ≤ (i : Int) := by omega
      have z3 : (i : Int) < (xs.length : Int) := by omega
      obtain ⟨x, hx⟩ : ∃ x, xs[i]? = some x := ⟨xs[i], List.getElem?_eq_getElem hi⟩
      obtain ⟨b, off, rfl, k0⟩ := cellZ (hr.keep hU) hx
      have hcall := hf x (List.mem_of_getElem? hx) wr hU
      have hnH : Unit → ∀ j, j < i → ∀ y, xs[j]? = some y → f y = false := fun _ => hn
      clear hn
      cases hfx : f x with
      | true =>
        rw [hfx] at hcall
        have hH : Unit → idxP f xs = (i : Int) := fun _ => idxP_some hx hfx (hnH ())
        clear hfx hr hf hnH
        go_wp2_with fail
        refine hcall.mono ?_
        rintro e w1 ⟨rfl, u1⟩
        go_wp2_with fail
        go_ret
        exact ⟨by rw [hH ()]; rfl, hU.trans u1⟩
      | false =>
        rw [hfx] at hcall
        have hH : Unit → ∀ j, j < i + 1 → ∀ y, xs[j]? = some y → f y = false := fun _ j hj y hy => by
          by_cases e : j = i
          · subst e
            rw [hx] at hy
            cases hy
            exact hfx
          · exact hnH () j (by omega) y hy
        clear hfx hr hf hnH
        go_wp2_with fail
        refine hcall.mono ?_
        rintro e w1 ⟨rfl, u1⟩
        go_wp2_with fail
        go_roundg (gk - 1)
        case measure => omega
        case rel => exact ⟨i + 1, by go_num, by omega, hU.trans u1, hH ()⟩
    · have z1 : decide ((i : Int) < (xs.length : Int)) = false := decide_eq_false (by omega)
      have hH : Unit → idxP f xs = -1 := fun _ => idxP_none fun y hy => by
        obtain ⟨j, hj⟩ := List.mem_iff_getElem?.1 hy
        have := (List.getElem?_eq_some_iff.1 hj).1
        exact hn j (by omega) y hj
      clear hn hr hf
      go_wp2_with fail
      go_ret
      exact ⟨by rw [hH ()]; rfl, hU⟩
set_option maxRecDepth 100000 in
theorem has101 (c : Nat) (hr : RowsAt w A 1 (xs.map encZi)) (hl : xs.length ≤ 100000) (g : Nat) (bd cp : Array Value) (eg : ∀ args w, (callFunc g args).run Try.prog w = .ok (.enter g args) w) (f : Int → Bool) (hf : Answers w g bd cp (fun x : Int => Value.int .i64 x) (· ∈ xs) f) :
    Calls Try.prog 101 #[.slice A xs.length c, .func (.func g) bd cp] w fun e w' => e = .returned (.bool (xs.any f)) ∧ Upd [] w w' := by
  have h := idx114 c hr hl g bd cp eg f hf
  rw [← idxP_any]
  clear hr hf eg hl
  generalize idxP f xs = r at h ⊢
  go_enter Try.func101, Try.ntmps101
  go_wp2_with fail
  refine h.mono ?_
  rintro e w1 ⟨rfl, u1⟩
  go_wp2_with fail
  go_ret
  exact ⟨rfl, u1⟩
end
end Go.Proofs.Ytibghcmkmbamjaa
end
section
namespace Go.Proofs.Ytibghcmkmbamjaa
open Go.RowKit
set_option linter.unusedVariables false
set_option linter.unusedSimpArgs false
set_option linter.unusedSectionVars false
theorem eql24 (x : Ins) (m : Int) (w : World) : (binOp .eql 24 (.agg #[.int .u8 x.op, .int .u8 x.D, .int .u8 x.S, .int .i16 x.O, .int .i32 x.M]) (.agg #[.int .u8 0, .int .u8 0, .int .u8 0, .int .i16 0, .int .i32 x.M])).run Try.prog w = .ok (.bool (decide (x.op = 0 ∧ x.D = 0 ∧ x.S = 0 ∧ x.O = 0))) w := by
  have h : (Op.equal 24 (.agg #[.int .u8 x.op, .int .u8 x.D, .int .u8 x.S, .int .i16 x.O, .int .i32 x.M]) (.agg #[.int .u8 0, .int .u8 0, .int .u8 0, .int .i16 0, .int .i32 x.M])).run Try.prog w = .ok (x.op == 0 && (x.D == 0 && (x.S == 0 && (x.O == 0 && (x.M == x.M))))) w := PI.eqA24 _ w _ _ _ _ _ _ _ _ _ _
  have e : (x.op == 0 && (x.D == 0 && (x.S == 0 && (x.O == 0 && (x.M == x.M))))) = decide (x.op = 0 ∧ x.D = 0 ∧ x.S = 0 ∧ x.O = 0) := by
    rw [Bool.eq_iff_iff]; simp
  rw [← e]
  simp [binOp, h]
def okI (a : Int) : Prop := (Lit.int .i64 a).wf = true
theorem ki : Kops Try.prog 3 (Value.int .i64) okI := kops_int Try.underlying3
theorem zero4 (w : World) : (zeroValue 4).run Try.prog w = .ok (.bool false) w := by kernel_rfl
theorem look83 {w : World} {b : Nat} {fr : List (Int × Bool)} (h : MapAt (Value.int .i64) Value.bool okI w b fr) (x : Int) (hx : okI x) :
    (Instr.lookup 83 (.map (some b)) (.int .i64 x) false).run Try.prog w = .ok (.bool ((aget fr x).getD false)) w := by
  rw [h.lookup ki Try.underlying83 (zero4 w) hx false]
  unfold lookV
  cases aget fr x <;> rfl
/-- A program that is looked at. -/
structure Prg (w : World) (p : Nat) (A : Option Addr) (c : Nat) (l : List Ins) (bm : Nat) (b : List Int) (vS : Value) : Prop where
  blk : w.heap[p]? = some (.cells #[.slice A l.length c, .map (some bm), vS] 85 (0, 0))
  row : RowsAt w A 5 (l.map encN)
  ok : ∀ x ∈ l, OkI x
  len : l.length ≤ 1024
  begins : ∃ bs : List (Int × Bool), MapAt (Value.int .i64) Value.bool okI w bm bs ∧ ∀ t, (aget bs t).getD false = decide (t ∈ b)
section
variable {w : World} {p : Nat} {A : Option Addr} {c : Nat} {l : List Ins} {bm : Nat} {b : List Int} {vS : Value}
theorem Prg.keep {w' : World} (h : Prg w p A c l bm b vS) (u : Upd [] w w') : Prg w' p A c l bm b vS :=
  ⟨u.heap h.blk (by simp), h.row.keep u, h.ok, h.len, by obtain ⟨bs, h1, h2⟩ := h.begins; exact ⟨bs, h1.kept u (by simp), h2⟩⟩
theorem secondP_at {i : Nat} {x : Ins} (hx : l[i]? = some x) : secondP l (i : Int) = decide (x.op = 0 ∧ x.D = 0 ∧ x.S = 0 ∧ x.O = 0) := by
  unfold secondP
  simp [hx]
set_option maxRecDepth 100000 in
set_option maxHeartbeats 4000000 in
theorem whole64 (h : Prg w p A c l bm b vS) (n : Nat) (hn : n < l.length) :
    Calls Try.prog 64 #[.pointer (some ⟨p, 0, none⟩), .int .i64 (n : Int)] w fun e w' => e = .returned (.bool (wholeP l (n : Int))) ∧ Upd [] w w' := by
  have hkk := kind85 c h.row h.ok (n : Int)
  have c0 := cell_of h.blk 0
  have lt := lt_of_heap h.blk
  simp only [List.getElem?_toArray, List.getElem?_cons_zero] at c0
  have hl := h.len
  by_cases k0 : kindP l (n : Int) = 0
  · have hw : wholeP l (n : Int) = false := by unfold wholeP; simp [k0]
    rw [hw]
    have z0 : (kindP l (n : Int) == 0) = true := by simp [k0]
    clear hw k0
    generalize kindP l (n : Int) = k at hkk z0
    go_enter Try.func64, Try.ntmps64
    go_wp2_with fail
    refine hkk.mono ?_
    rintro e w1 ⟨rfl, u1⟩
    go_wp2_with fail
    go_ret
    exact ⟨rfl, u1⟩
  · have z0 : (kindP l (n : Int) == 0) = false := by simpa using k0
    by_cases k9 : kindP l (n : Int) = 9
    · have z9 : (kindP l (n : Int) == 9) = true := by simp [k9]
      have y1 : IntKind.i64.wrap ((n : Int) + 1) = (n : Int) + 1 := IntWalk.i64_in _ (by omega)
      have hw : wholeP l (n : Int) = secondP l ((n + 1 : Nat) : Int) := by
        unfold wholeP
        simp [k9]
      rw [hw]
      clear hw k0 k9
      generalize kindP l (n : Int) = k at hkk z0 z9
      by_cases h1 : n + 1 < l.length
      · obtain ⟨x, hx⟩ : ∃ x, l[n + 1]? = some x := ⟨l[n + 1], List.getElem?_eq_getElem h1⟩
        rw [secondP_at hx]
        obtain ⟨m, hm⟩ : ∃ m, m = n + 1 := ⟨_, rfl⟩
        have y1' : IntKind.i64.wrap ((n : Int) + 1) = (m : Int) := by rw [y1, hm]; rfl
        rw [← hm] at hx
        have w1 : decide ((m : Int) < (l.length : Int)) = true := decide_eq_true (by omega)
        have w2 : (0 : Int) ≤ (m : Int) := by omega
        have w3 : (m : Int) < (l.length : Int) := by omega
        have heq := eql24 x x.M
        generalize decide (x.op = 0 ∧ x.D = 0 ∧ x.S = 0 ∧ x.O = 0) = bb at heq
        have hrow := h.row
        clear y1 hm h1
        go_enter Try.func64, Try.ntmps64
        go_wp2_with fail
        refine hkk.mono ?_
        rintro e w1 ⟨rfl, u1⟩
        have c0' := u1.cell c0 (by simp)
        have lt' := Nat.lt_of_lt_of_le lt u1.size
        obtain ⟨b0, off, rfl, q0, q1, q2, q3, q4⟩ := cellN (hrow.keep u1) hx
        clear hrow hx h hkk
        go_wp2_with fail
        go_quiet (fail)
        go_wp2_with fail
        go_ret
        exact ⟨rfl, u1.drewN _⟩
      · have hs : secondP l ((n + 1 : Nat) : Int) = false := by
          unfold secondP
          rw [List.getElem?_eq_none (by omega)]
        rw [hs]
        have w1 : decide ((n : Int) + 1 < (l.length : Int)) = false := decide_eq_false (by omega)
        go_enter Try.func64, Try.ntmps64
        go_wp2_with fail
        refine hkk.mono ?_
        rintro e w1 ⟨rfl, u1⟩
        have c0' := u1.cell c0 (by simp)
        have lt' := Nat.lt_of_lt_of_le lt u1.size
        go_wp2_with fail
        go_quiet (fail)
        go_wp2_with fail
        go_ret
        exact ⟨rfl, u1.drewN _⟩
    · have hw : wholeP l (n : Int) = true := by unfold wholeP; simp [k0, k9]
      rw [hw]
      have z9 : (kindP l (n : Int) == 9) = false := by simpa using k9
      clear hw k0 k9
      generalize kindP l (n : Int) = k at hkk z0 z9
      go_enter Try.func64, Try.ntmps64
      go_wp2_with fail
      refine hkk.mono ?_
      rintro e w1 ⟨rfl, u1⟩
      go_wp2_with fail
      go_ret
      exact ⟨rfl, u1⟩
end
end Go.Proofs.Ytibghcmkmbamjaa
end
section
namespace Go.Proofs.Ytibghcmkmbamjaa
open Go.RowKit
set_option linter.unusedVariables false
set_option linter.unusedSimpArgs false
set_option linter.unusedSectionVars false
def encS (s : Int × Int) : List Value := [.int .i64 s.1, .int .i64 s.2]
section
variable {w : World} {A : Option Addr} {xs : List (Int × Int)}
theorem cellS {i : Nat} {x : Int × Int} (hr : RowsAt w A 2 (xs.map encS)) (hx : xs[i]? = some x) : ∃ b off, A = some ⟨b, off, none⟩ ∧ w.cell? ⟨b, off + i * 2, none⟩ = some (.int .i64 x.1) ∧ w.cell? ⟨b, off + i * 2 + 1, none⟩ = some (.int .i64 x.2) := by
  obtain ⟨b, off, e, hc⟩ := hr i (encS x) (by rw [List.getElem?_map, hx]; rfl)
  exact ⟨b, off, e, hc 0 _ rfl, hc 1 _ rfl⟩
set_option maxRecDepth 100000 in
set_option maxHeartbeats 4000000 in
theorem idx115 (c : Nat) (hr : RowsAt w A 2 (xs.map encS)) (hl : xs.length ≤ 100000) (g : Nat) (bd cp : Array Value) (eg : ∀ args w, (callFunc g args).run Try.prog w = .ok (.enter g args) w) (f : Int × Int → Bool) (hf : Answers w g bd cp (fun x : Int × Int => Value.agg #[.int .i64 x.1, .int .i64 x.2]) (· ∈ xs) f) :
    Calls Try.prog 115 #[.slice A xs.length c, .func (.func g) bd cp] w fun e w' => e = .returned (.int .i64 (idxP f xs)) ∧ Upd [] w w' := by
  go_enter Try.func115, Try.ntmps115
  go_wp2_with fail
  go_loopg [8] xs.length (fun kq v8 w' => ∃ i : Nat, v8 = .int .i64 (i : Int) ∧ kq + i = xs.length ∧ Upd [] w w' ∧ ∀ j, j < i → ∀ y, xs[j]? = some y → f y = false)
  case atStart => exact ⟨0, rfl, rfl, Upd.refl _ _, fun j hj => by omega⟩
  case round =>
    obtain ⟨i, rfl, hk, hU, hn⟩ := hrel
    by_cases hi : i < xs.length
    · have z1 : decide ((i : Int) < (xs.length : Int)) = true := decide_eq_true (by omega)
      have z2 : (0 : Int) ≤ (i : Int) := by omega
      have z3 : (i : Int) < (xs.length : Int) := by omega
      obtain ⟨x, hx⟩ : ∃ x, xs[i]? = some x := ⟨xs[i], List.getElem?_eq_getElem hi⟩
      obtain ⟨b, off, rfl, k0, k1⟩ := cellS (hr.keep hU) hx
      have hcall := hf x (List.mem_of_getElem? hx) wr hU
      have hnH : Unit → ∀ j, j < i → ∀ y, xs[j]? = some y → f y = false := fun _ => hn
      clear hn
      cases hfx : f x with
      | true =>
        rw [hfx] at hcall
        have hH : Unit → idxP f xs = (i : Int) := fun _ => idxP_some hx hfx (hnH ())
        clear hfx hr hf hnH
        go_wp2_with fail
        refine hcall.mono ?_
        rintro e w1 ⟨rfl, u1⟩
        go_wp2_with fail
        go_ret
        exact ⟨by rw [hH ()]; rfl, hU.trans u1⟩
      | false =>
        rw [hfx] at hcall
        have hH : Unit → ∀ j, j < i + 1 → ∀ y, xs[j]? = some y → f y = false := fun _ j hj y hy => by
          by_cases e : j = i
          · subst e
            rw [hx] at hy
            cases hy
            exact hfx
          · exact hnH () j (by omega) y hy
        clear hfx hr hf hnH
        go_wp2_with fail
        refine hcall.mono ?_
        rintro e w1 ⟨rfl, u1⟩
        go_wp2_with fail
        go_roundg (gk - 1)
        case measure => omega
        case rel => exact ⟨i + 1, by go_num, by omega, hU.trans u1, hH ()⟩
    · have z1 : decide ((i : Int) < (xs.length : Int)) = false := decide_eq_false (by omega)
      have hH : Unit → idxP f xs = -1 := fun _ => idxP_none fun y hy => by
        obtain ⟨j, hj⟩ := List.mem_iff_getElem?.1 hy
        have := (List.getElem?_eq_some_iff.1 hj).1
        exact hn j (by omega) y hj
      clear hn hr hf
      go_wp2_with fail
      go_ret
      exact ⟨by rw [hH ()]; rfl, hU⟩
end
section
variable {w : World} {p : Nat} {A AS : Option Addr} {c cS : Nat} {l : List Ins} {bm : Nat} {b : List Int} {subs : List (Int × Int)}
set_option maxRecDepth 100000 in
set_option maxHeartbeats 4000000 in
theorem of116 {ba : Nat} (a : Int) (ha : w.heap[ba]? = some (.cells #[.int .i64 a] 3 (0, 0))) : Answers w 116 #[] #[.pointer (some ⟨ba, 0, none⟩)] (fun x : Int × Int => Value.agg #[.int .i64 x.1, .int .i64 x.2]) (fun _ => True) (inSub a) := by
  intro x _ W u
  have hb := u.heap ha (by simp)
  have c0 := cell_of hb 0
  have lt := lt_of_heap hb
  simp only [List.getElem?_toArray, List.getElem?_cons_zero] at c0
  clear hb ha
  show Calls Try.prog 116 #[.agg #[.int .i64 x.1, .int .i64 x.2], .pointer (some ⟨ba, 0, none⟩)] W _
  unfold inSub
  have U := (Upd.refl [] W).alloc (.cells #[.int .i64 x.1, .int .i64 x.2] 53)
  by_cases h1 : x.1 ≤ a
  · have z1 : decide (x.1 ≤ a) = true := decide_eq_true h1
    rw [z1]
    go_enter Try.func116, Try.ntmps116
    go_wp2_with fail
    go_ret
    exact ⟨by simp, U⟩
  · have z1 : decide (x.1 ≤ a) = false := decide_eq_false h1
    rw [z1]
    go_enter Try.func116, Try.ntmps116
    go_wp2_with fail
    go_ret
    exact ⟨by simp, U⟩
set_option maxRecDepth 100000 in
set_option maxHeartbeats 4000000 in
theorem of103 (h : Prg w p A c l bm b (.slice AS subs.length cS)) (hs : RowsAt w AS 2 (subs.map encS)) (hl : subs.length ≤ 100000) (a : Int) :
    Calls Try.prog 103 #[.pointer (some ⟨p, 0, none⟩), .int .i64 a] w fun e w' => e = .returned (.int .i64 (ofP subs a)) ∧ Upd [] w w' := by
  have u1 := (Upd.refl [] w).alloc (.cells #[.int .i64 a] 3)
  have hb := heap_alloc_new w (.cells #[.int .i64 a] 3)
  have hc := idx115 cS (hs.keep u1) hl 116 #[] #[.pointer (some ⟨w.heap.size, 0, none⟩)] (enters_of Try.func116 (by kernel_rfl) rfl) (inSub a) (fun x hx W u => of116 a hb x trivial W u)
  have c2 := cell_of (u1.heap h.blk (by simp)) 2
  have lt := lt_of_heap h.blk
  simp only [List.getElem?_toArray, List.getElem?_cons_zero, List.getElem?_cons_succ] at c2
  have e : idxP (inSub a) subs = ofP subs a := rfl
  rw [e] at hc
  clear e hb hs
  generalize ofP subs a = r at hc ⊢
  go_enter Try.func103, Try.ntmps103
  go_wp2_with fail
  refine hc.mono ?_
  rintro e w1 ⟨rfl, u2⟩
  go_wp2_with fail
  go_ret
  exact ⟨rfl, u1.trans u2⟩
end
end Go.Proofs.Ytibghcmkmbamjaa
end
section
namespace Go.Proofs.Ytibghcmkmbamjaa
open Go.RowKit
set_option linter.unusedVariables false
set_option linter.unusedSimpArgs false
set_option linter.unusedSectionVars false
theorem next38' {w : World} {A : Option Addr} {l : List Ins} (c : Nat) (hr : RowsAt w A 5 (l.map encN)) (hok : ∀ x ∈ l, OkI x) (a : Int) (hl : l.length ≤ 100000) :
    Calls Try.prog 38 #[.slice A l.length c, .int .i64 a] w fun e w' => ∃ B k, e = .returned (.slice B (nextP l a).length k) ∧ RowsAt w' B 1 ((nextP l a).map encZi) ∧ Upd [] w w' :=
  (next38 c (SepK.start w) hr hok a hl).mono fun e w' ⟨v, he, hS⟩ => by
    obtain ⟨B, k, rfl, hB⟩ := hS.row
    rw [List.length_map] at he
    exact ⟨B, k, he, hB, hS.u⟩
theorem nextP_len (l : List Ins) (a : Int) : (nextP l a).length ≤ 2 := by
  unfold nextP
  split
  · simp
  · split
    · simp
    · split
      · split
        · simp
        · split <;> simp
      · simp
section
variable {w : World} {p : Nat} {A AS : Option Addr} {c cS : Nat} {l : List Ins} {bm : Nat} {b : List Int} {subs : List (Int × Int)}
set_option maxRecDepth 100000 in
set_option maxHeartbeats 4000000 in
theorem leaves102 {bp ba : Nat} (h : Prg w p A c l bm b (.slice AS subs.length cS)) (hs : RowsAt w AS 2 (subs.map encS)) (hl : subs.length ≤ 100000) (a : Int) (hp : w.heap[bp]? = some (.cells #[.pointer (some ⟨p, 0, none⟩)] 82 (0, 0))) (ha : w.heap[ba]? = some (.cells #[.int .i64 a] 3 (0, 0))) :
    Answers w 102 #[] #[.pointer (some ⟨bp, 0, none⟩), .pointer (some ⟨ba, 0, none⟩)] (fun x : Int => Value.int .i64 x) (fun _ => True) (fun t => !decide (ofP subs t = ofP subs a)) := by
  intro t _ W u
  show Calls Try.prog 102 #[.int .i64 t, .pointer (some ⟨bp, 0, none⟩), .pointer (some ⟨ba, 0, none⟩)] W fun e W' => e = .returned (.bool (!decide (ofP subs t = ofP subs a))) ∧ Upd [] W W'
  have hof := fun (a : Int) (W' : World) (u' : Upd [] w W') => of103 (h.keep u') (hs.keep u') hl a
  have hT := hof t
  have hA := hof a
  have hne : (ofP subs t != ofP subs a) = !decide (ofP subs t = ofP subs a) := by
    rw [Bool.eq_iff_iff]; simp
  rw [← hne]
  clear hne hof hs h hl
  generalize ofP subs t = x at hT ⊢
  generalize ofP subs a = y at hA ⊢
  have kp0 := cell_of hp 0
  have ka0 := cell_of ha 0
  have lp0 := lt_of_heap hp
  have la0 := lt_of_heap ha
  simp only [List.getElem?_toArray, List.getElem?_cons_zero] at kp0 ka0
  clear hp ha
  have uu := u.trans (Upd.refl [] W).drew
  have uW := (Upd.refl [] W).drew
  have kp := u.cell kp0 (by simp)
  have ka := u.cell ka0 (by simp)
  have lp := Nat.lt_of_lt_of_le lp0 u.size
  have la := Nat.lt_of_lt_of_le la0 u.size
  go_enter Try.func102, Try.ntmps102
  go_wp2_with fail
  go_region_with (first
    | (go_at_call 103; (with_reducible refine (hT _ uu).mono ?_); rintro e wa ⟨rfl, ua⟩; replace uu := uu.trans ua; replace uW := uW.trans ua; have kp := uu.cell kp0 (by simp); have ka := uu.cell ka0 (by simp); have lp := Nat.lt_of_lt_of_le lp0 uu.size; have la := Nat.lt_of_lt_of_le la0 uu.size)
    | (go_at_call 103; (with_reducible refine (hA _ uu).mono ?_); rintro e wa ⟨rfl, ua⟩; replace uu := uu.trans ua; replace uW := uW.trans ua; have kp := uu.cell kp0 (by simp); have ka := uu.cell ka0 (by simp); have lp := Nat.lt_of_lt_of_le lp0 uu.size; have la := Nat.lt_of_lt_of_le la0 uu.size))
  all_goals
    go_wp2_with fail
    go_ret
    exact ⟨rfl, uW⟩
set_option maxRecDepth 100000 in
set_option maxHeartbeats 4000000 in
theorem leaves71 (h : Prg w p A c l bm b (.slice AS subs.length cS)) (hs : RowsAt w AS 2 (subs.map encS)) (hl : subs.length ≤ 100000) (a : Int) :
    Calls Try.prog 71 #[.pointer (some ⟨p, 0, none⟩), .int .i64 a] w fun e w' => e = .returned (.bool (leavesP l subs a)) ∧ Upd [] w w' := by
  have hll := h.len
  have u1 := ((Upd.refl [] w).alloc (.cells #[.pointer (some ⟨p, 0, none⟩)] 82)).alloc (.cells #[.int .i64 a] 3)
  have hp := ((Upd.refl [] (w.alloc (.cells #[.pointer (some ⟨p, 0, none⟩)] 82))).alloc (.cells #[.int .i64 a] 3)).heap (heap_alloc_new w (.cells #[.pointer (some ⟨p, 0, none⟩)] 82)) (by simp)
  have ha := heap_alloc_new (w.alloc (.cells #[.pointer (some ⟨p, 0, none⟩)] 82)) (.cells #[.int .i64 a] 3)
  rw [alloc_size] at ha
  obtain ⟨W, hW⟩ : ∃ W, W = (w.alloc (.cells #[.pointer (some ⟨p, 0, none⟩)] 82)).alloc (.cells #[.int .i64 a] 3) := ⟨_, rfl⟩
  rw [← hW] at u1 hp ha
  have h1 := h.keep u1
  have hs1 := hs.keep u1
  have hN := fun (W' : World) (u' : Upd [] W W') => next38' c (h1.keep u').row h.ok a (by omega)
  have hL := fun (W' : World) (u' : Upd [] W W') (B : Option Addr) (k : Nat) (hB : RowsAt W' B 1 ((nextP l a).map encZi)) => has101 k hB (by have := nextP_len l a; omega) 102 #[] #[.pointer (some ⟨w.heap.size, 0, none⟩), .pointer (some ⟨w.heap.size + 1, 0, none⟩)] (enters_of Try.func102 (by kernel_rfl) rfl) (fun t => !decide (ofP subs t = ofP subs a)) (fun x hx W2 u2 => leaves102 (h1.keep u') (hs1.keep u') hl a (u'.heap hp (by simp)) (u'.heap ha (by simp)) x trivial W2 u2)
  have e : (nextP l a).any (fun t => !decide (ofP subs t = ofP subs a)) = leavesP l subs a := rfl
  rw [e] at hL
  clear e
  have kp0 := cell_of h1.blk 0
  have lp0 := lt_of_heap h1.blk
  have kb0 := cell_of hp 0
  have lb0 := lt_of_heap hp
  have ka0 := cell_of ha 0
  have la0 := lt_of_heap ha
  simp only [List.getElem?_toArray, List.getElem?_cons_zero] at kp0 kb0 ka0
  clear h h1 hs hs1 hp ha hl
  generalize leavesP l subs a = r at hL ⊢
  generalize nextP l a = nx at hN hL
  go_enter Try.func71, Try.ntmps71
  go_upto_region 1 with fail
  rw [← hW]
  clear hW
  generalize w.heap.size = b0 at kb0 lb0 ka0 la0 hL ⊢
  have uu := (Upd.refl [] W).drew
  go_region_with (first
    | (go_at_call 38; refine (hN _ uu).mono ?_; rintro e wa ⟨B, k, rfl, hB, ua⟩; replace uu := uu.trans ua; have kp := uu.cell kp0 (by simp); have kb := uu.cell kb0 (by simp); have ka := uu.cell ka0 (by simp); have lp := Nat.lt_of_lt_of_le lp0 uu.size; have lb := Nat.lt_of_lt_of_le lb0 uu.size; have la := Nat.lt_of_lt_of_le la0 uu.size)
    | (go_at_call 101; refine (hL _ uu B k hB).mono ?_; rintro e wb ⟨rfl, ub⟩; replace uu := uu.trans ub))
  all_goals
    go_wp2_with fail
    go_ret
    exact ⟨rfl, u1.trans uu⟩
end
end Go.Proofs.Ytibghcmkmbamjaa
end
section
namespace Go.Proofs.Ytibghcmkmbamjaa
open Go.RowKit
set_option linter.unusedVariables false
set_option linter.unusedSimpArgs false
set_option linter.unusedSectionVars false
theorem okI_of {x : Int} (h0 : -9223372036854775808 ≤ x) (h1 : x ≤ 9223372036854775807) : okI x := WalkArith.wf_i64 (by omega)
section
variable {w : World} {p : Nat} {A AS : Option Addr} {c cS : Nat} {l : List Ins} {bm : Nat} {b : List Int} {vS : Value}
theorem off_bd (hok : ∀ x ∈ l, OkI x) (a : Int) : -32768 ≤ offP l a ∧ offP l a ≤ 32767 := by
  unfold offP
  split
  · rename_i i hi
    have := hok i (List.mem_of_getElem? hi)
    exact ⟨this.o0, this.o1⟩
  · omega
theorem imm_bd (hok : ∀ x ∈ l, OkI x) (a : Int) : -2147483648 ≤ immP l a ∧ immP l a ≤ 2147483647 := by
  unfold immP
  split
  · rename_i i hi
    have := hok i (List.mem_of_getElem? hi)
    exact ⟨this.m0, this.m1⟩
  · omega
theorem next_ok (hok : ∀ x ∈ l, OkI x) (a : Int) (h0 : 0 ≤ a) (h1 : a ≤ 100000) : ∀ t ∈ nextP l a, okI t := by
  have h2 := off_bd hok a
  have h3 := szK_bd (kindP l a)
  intro t ht
  unfold nextP at ht
  refine okI_of ?_ ?_
  all_goals
    split at ht
    · simp at ht
    · split at ht
      · simp at ht; omega
      · split at ht
        · split at ht
          · simp at ht; omega
          · split at ht
            · simp at ht; omega
            · simp at ht; omega
        · simp at ht; omega
theorem callee_ok (hok : ∀ x ∈ l, OkI x) (a t : Int) (h0 : 0 ≤ a) (h1 : a ≤ 100000) (ht : calleeP l a = some t) : okI t := by
  have h2 := imm_bd hok a
  unfold calleeP at ht
  refine okI_of ?_ ?_
  all_goals
    split at ht
    · simp at ht; omega
    · split at ht
      · simp at ht; omega
      · cases ht
set_option maxRecDepth 100000 in
set_option maxHeartbeats 4000000 in
theorem lost100 {bp : Nat} (h : Prg w p A c l bm b vS) (hp : w.heap[bp]? = some (.cells #[.pointer (some ⟨p, 0, none⟩)] 82 (0, 0))) : Answers w 100 #[] #[.pointer (some ⟨bp, 0, none⟩)] (fun x : Int => Value.int .i64 x) okI (lostP l b) := by
  intro t ht W u
  show Calls Try.prog 100 #[.int .i64 t, .pointer (some ⟨bp, 0, none⟩)] W fun e W' => e = .returned (.bool (lostP l b t)) ∧ Upd [] W W'
  have hW := h.keep u
  have kb := cell_of (u.heap hp (by simp)) 0
  have lb := lt_of_heap (u.heap hp (by simp))
  have c0 := cell_of hW.blk 0
  have c1 := cell_of hW.blk 1
  have lp := lt_of_heap hW.blk
  simp only [List.getElem?_toArray, List.getElem?_cons_zero, List.getElem?_cons_succ] at kb c0 c1
  obtain ⟨bs, hm, hbs⟩ := hW.begins
  have r1 := look83 hm t ht
  rw [hbs t] at r1
  unfold lostP
  generalize decide (t ∈ b) = bb at r1 ⊢
  clear hm hbs hW h hp
  by_cases h0 : t < 0
  · have z0 : decide (t < 0) = true := decide_eq_true h0
    rw [z0]
    go_enter Try.func100, Try.ntmps100
    go_wp2_with fail
    go_ret
    exact ⟨by simp, Upd.refl _ _⟩
  · have z0 : decide (t < 0) = false := decide_eq_false h0
    rw [z0]
    by_cases h1 : t < (l.length : Int)
    · have z1 : decide (t < (l.length : Int)) = true := decide_eq_true h1
      rw [z1]
      clear h0 h1
      go_enter Try.func100, Try.ntmps100
      go_wp2_with fail
      go_ret
      exact ⟨by simp, Upd.refl _ _⟩
    · have z1 : decide (t < (l.length : Int)) = false := decide_eq_false h1
      rw [z1]
      clear h0 h1
      go_enter Try.func100, Try.ntmps100
      go_wp2_with fail
      go_ret
      exact ⟨by simp, Upd.refl _ _⟩
end
end Go.Proofs.Ytibghcmkmbamjaa
end
section
namespace Go.Proofs.Ytibghcmkmbamjaa
open Go.RowKit
set_option linter.unusedVariables false
set_option linter.unusedSimpArgs false
set_option linter.unusedSectionVars false
theorem neqI (x : Ins) (w : World) : (binOp .neq 24 (.agg #[.int .u8 x.op, .int .u8 x.D, .int .u8 x.S, .int .i16 x.O, .int .i32 x.M]) (.agg #[.int .u8 x.op, .int .u8 x.D, .int .u8 x.S, .int .i16 x.O, .int .i32 x.M])).run Try.prog w = .ok (.bool false) w := by
  have h : (Op.equal 24 (.agg #[.int .u8 x.op, .int .u8 x.D, .int .u8 x.S, .int .i16 x.O, .int .i32 x.M]) (.agg #[.int .u8 x.op, .int .u8 x.D, .int .u8 x.S, .int .i16 x.O, .int .i32 x.M])).run Try.prog w = .ok (x.op == x.op && (x.D == x.D && (x.S == x.S && (x.O == x.O && (x.M == x.M))))) w := PI.eqA24 _ w _ _ _ _ _ _ _ _ _ _
  simp [binOp, h]
set_option maxRecDepth 100000 in
theorem same42 {A B : Option Addr} (ca cb : Nat) (l : List Ins) (w : World) (hA : RowsAt w A 5 (l.map encN)) (hB : RowsAt w B 5 (l.map encN)) (hl : l.length ≤ 100000) :
    Calls Try.prog 42 #[.slice A l.length ca, .slice B l.length cb] w fun e w' => e = .returned (.bool true) ∧ Upd [] w w' := by
  have z0 : ((l.length : Int) != (l.length : Int)) = false := by simp
  go_enter Try.func42, Try.ntmps42
  go_wp2_with fail
  go_loopg [5] l.length (fun kq v5 w' => ∃ i : Nat, v5 = .int .i64 (i : Int) ∧ kq + i = l.length ∧ Upd [] w w')
  case atStart => exact ⟨0, rfl, rfl, Upd.refl _ _⟩
  case round =>
    obtain ⟨i, rfl, hk, hU⟩ := hrel
    by_cases hi : i < l.length
    · have z1 : decide ((i : Int) < (l.length : Int)) = true := decide_eq_true (by omega)
      obtain ⟨x, hx⟩ : ∃ x, l[i]? = some x := ⟨l[i], List.getElem?_eq_getElem hi⟩
      obtain ⟨b, off, rfl, k0, k1, k2, k3, k4⟩ := cellN (hA.keep hU) hx
      obtain ⟨b', off', rfl, m0, m1, m2, m3, m4⟩ := cellN (hB.keep hU) hx
      have y3 : (0 : Int) ≤ (i : Int) := by omega
      have y4 : (i : Int) < (l.length : Int) := by omega
      have y5 := neqI x
      clear hx
      go_wp2_with fail
      go_quiet (fail)
      go_wp2_with fail
      go_roundg (gk - 1)
      case measure => omega
      case rel => exact ⟨i + 1, by go_num, by omega, hU.drewN _⟩
    · have z1 : decide ((i : Int) < (l.length : Int)) = false := decide_eq_false (by omega)
      go_wp2_with fail
      go_ret
      exact ⟨rfl, hU⟩
end Go.Proofs.Ytibghcmkmbamjaa
end
