/- A script of the heap's laws that came in. -/
import Derived.Test.YtgleceijdedlkaaSteps14
import Derived.Test.YtgleceijdedlkaaOpenLib
namespace Go.Proofs.Ytgleceijdedlkaa
open Go.RowKit Go.ChangeShapes Go.WideShapes Go.ChangeAt
set_option linter.unusedVariables false
section
variable {H : Type} {enc : TypeId × Value → H} {w : World} {base : Nat} {spare : Nat → Bool} {held : Bool}
theorem open_handle {fuel : Nat} {cs : List Value} {x : DataW H × List MemPlace} (hl : cs.length = 2) (h : DataW.trod enc Try.prog w base spare held fuel 30 cs = some x) :
    ∃ q : Int × Int, cs[0]? = some (.int .i64 q.1) ∧ cs[1]? = some (.int .u64 q.2) ∧ okH q := by
  obtain ⟨n0, v0, y0, c0, t0, _⟩ := open_field Try.underlying30 h (j := 0) rfl (by kernel_rfl) (by rw [hl]; decide)
  obtain ⟨n1, v1, y1, c1, t1, _⟩ := open_field Try.underlying30 h (j := 1) rfl (by kernel_rfl) (by rw [hl]; decide)
  obtain ⟨a, e0, _, g0⟩ := DataW.trod_int Try.underlying3 t0
  obtain ⟨b, e1, _, g1⟩ := DataW.trod_int Try.underlying26 t1
  cases e0
  cases e1
  exact ⟨(a, b), c0, c1, g0, g1⟩
theorem open_step {fuel : Nat} {cs : List Value} {x : DataW H × List MemPlace} (hl : cs.length = 8) (h : DataW.trod enc Try.prog w base spare held fuel 56 cs = some x) (hsz : ∀ k ∈ x.1.weights Try.prog 56, k ≤ reachBytes) :
    ∃ s : St14, okS s ∧ ∀ (j : Nat) (v : Value), (encS s)[j]? = some v → cs[j]? = some v := by
  obtain ⟨n0, v0, y0, c0, t0, _⟩ := open_field Try.underlying56 h (j := 0) rfl (by kernel_rfl) (by rw [hl]; decide)
  obtain ⟨n1, v1, y1, c1, t1, _⟩ := open_field Try.underlying56 h (j := 1) rfl (by kernel_rfl) (by rw [hl]; decide)
  obtain ⟨n2, v2, y2, c2, t2, _⟩ := open_field Try.underlying56 h (j := 2) rfl (by kernel_rfl) (by rw [hl]; decide)
  obtain ⟨n3, v3, y3, c3, t3, _⟩ := open_field Try.underlying56 h (j := 3) rfl (by kernel_rfl) (by rw [hl]; decide)
  obtain ⟨n4, v4, y4, c4, t4, _⟩ := open_field Try.underlying56 h (j := 4) rfl (by kernel_rfl) (by rw [hl]; decide)
  obtain ⟨n5, v5, y5, c5, t5, k5⟩ := open_field Try.underlying56 h (j := 5) rfl (by kernel_rfl) (by rw [hl]; decide)
  obtain ⟨n6, y6, t6, _⟩ := open_part Try.underlying56 h (j := 6) rfl
  obtain ⟨a0, e0, _, g0⟩ := DataW.trod_int Try.underlying3 t0
  obtain ⟨a1, e1, _, g1⟩ := DataW.trod_int Try.underlying3 t1
  obtain ⟨a2, e2, _, g2⟩ := DataW.trod_int Try.underlying3 t2
  obtain ⟨a3, e3, _, g3⟩ := DataW.trod_int Try.underlying3 t3
  obtain ⟨a4, e4, _, g4⟩ := DataW.trod_int Try.underlying3 t4
  obtain ⟨a5, e5, f5, g5⟩ := DataW.trod_string Try.underlying9 t5
  cases e0; cases e1; cases e2; cases e3; cases e4; cases e5
  have hc30 : Try.prog.cellsOf 30 = 2 := by kernel_rfl
  have t6' : DataW.trod enc Try.prog w base spare held n6 30 ((cs.drop 6).take 2) = some y6 := by
    rw [← hc30]
    exact t6
  obtain ⟨q, q0, q1, hq⟩ := open_handle (by simp [hl]) t6'
  have c6 : cs[6]? = some (.int .i64 q.1) := by
    rw [List.getElem?_take_of_lt (by omega), List.getElem?_drop] at q0
    exact q0
  have c7 : cs[7]? = some (.int .u64 q.2) := by
    rw [List.getElem?_take_of_lt (by omega), List.getElem?_drop] at q1
    exact q1
  have hr : a5.size ≤ reach := by
    have := hsz _ (k5 a5.data.toList.length (by subst f5; simp [DataW.weights]))
    have e : reachBytes ≤ reach := by decide
    exact Nat.le_trans this e
  refine ⟨⟨a0, a1, a2, a3, a4, a5, q⟩, ⟨g0, g1, g2, g3, g4, hr, hq⟩, fun j v hj => ?_⟩
  match j, hj with
  | 0, hj => cases hj; exact c0
  | 1, hj => cases hj; exact c1
  | 2, hj => cases hj; exact c2
  | 3, hj => cases hj; exact c3
  | 4, hj => cases hj; exact c4
  | 5, hj => cases hj; exact c5
  | 6, hj => cases hj; exact c6
  | 7, hj => cases hj; exact c7
theorem open_steps {fuel : Nat} {cs : List Value} {x : DataW H × List MemPlace} (h : DataW.trod enc Try.prog w base spare held fuel 48 cs = some x) (hsz : ∀ k ∈ x.1.weights Try.prog 48, k ≤ reachBytes) :
    ∃ (A : Option Addr) (cap : Nat) (l : List St14), cs = [.slice A l.length cap] ∧ RowsAt w A 8 (l.map encS) ∧ ∀ s ∈ l, okS s := by
  have hc56 : Try.prog.cellsOf 56 = 8 := by kernel_rfl
  obtain ⟨A, len, cap, hcs, _, _, hi⟩ := open_elems Try.underlying48 (by rw [hc56]; decide) h
  rw [hc56] at hi
  obtain ⟨l, hlen, hl⟩ := exists_list (α := St14) (fun i s => ∃ b off, A = some ⟨b, off, none⟩ ∧ okS s ∧ ∀ (j : Nat) (v : Value), (encS s)[j]? = some v → w.cell? ⟨b, off + i * 8 + j, none⟩ = some v) len (fun i hil => by
    obtain ⟨b, off, n, cs', y, hA, hlc, hcell, ht, hw⟩ := hi i hil
    obtain ⟨s, ho, hc⟩ := open_step hlc ht (fun k hk => hsz k (hw k hk))
    exact ⟨s, b, off, hA, ho, fun j v hj => hcell j v (hc j v hj)⟩)
  subst hlen
  refine ⟨A, cap, l, hcs, fun i r hr => ?_, fun s hs => ?_⟩
  · rw [List.getElem?_map] at hr
    cases hx : l[i]? with
    | none => rw [hx] at hr; cases hr
    | some s =>
      rw [hx] at hr
      cases hr
      obtain ⟨b, off, h1, _, h3⟩ := hl i s hx
      exact ⟨b, off, h1, h3⟩
  · obtain ⟨i, hi'⟩ := List.mem_iff_getElem?.1 hs
    obtain ⟨_, _, _, h2, _⟩ := hl i s hi'
    exact h2
end
end Go.Proofs.Ytgleceijdedlkaa
