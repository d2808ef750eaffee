/- A table of types that came in. -/
import Derived.Test.YtojjjkeciiieeaaOLaw0
import Derived.Test.YtojjjkeciiieeaaOpenLib
namespace Go.Proofs.Ytojjjkeciiieeaa
open Go.RowKit Go.ChangeShapes Go.WideShapes Go.ChangeAt
set_option linter.unusedVariables false
set_option linter.unusedSimpArgs false
section
variable {H : Type} {enc : TypeId × Value → H} {w : World} {base : Nat} {spare : Nat → Bool} {held : Bool}
theorem open_fld {fuel : Nat} {cs : List Value} {x : DataW H × List MemPlace} (hl : cs.length = 5) (h : DataW.trod enc Try.prog w base spare held fuel 43 cs = some x) :
    ∃ f : Fld, ∀ (j : Nat) (v : Value), (encF f)[j]? = some v → cs[j]? = some v := by
  obtain ⟨n0, v0, y0, c0, t0, _⟩ := open_field Try.underlying43 h (j := 0) rfl (by kernel_rfl) (by rw [hl]; decide)
  obtain ⟨n1, v1, y1, c1, t1, _⟩ := open_field Try.underlying43 h (j := 1) rfl (by kernel_rfl) (by rw [hl]; decide)
  obtain ⟨n2, v2, y2, c2, t2, _⟩ := open_field Try.underlying43 h (j := 2) rfl (by kernel_rfl) (by rw [hl]; decide)
  obtain ⟨n3, v3, y3, c3, t3, _⟩ := open_field Try.underlying43 h (j := 3) rfl (by kernel_rfl) (by rw [hl]; decide)
  obtain ⟨n4, v4, y4, c4, t4, _⟩ := open_field Try.underlying43 h (j := 4) rfl (by kernel_rfl) (by rw [hl]; decide)
  obtain ⟨a0, e0, _, g0⟩ := DataW.trod_string Try.underlying9 t0
  obtain ⟨a1, e1, _, g1⟩ := DataW.trod_int Try.underlying5 t1
  obtain ⟨a2, e2, _, g2⟩ := DataW.trod_int Try.underlying3 t2
  obtain ⟨a3, e3, _, g3⟩ := DataW.trod_int Try.underlying3 t3
  obtain ⟨a4, e4, _, g4⟩ := DataW.trod_int Try.underlying3 t4
  cases e0; cases e1; cases e2; cases e3; cases e4
  refine ⟨⟨a0, a1, a2, a3, a4⟩, fun j v hj => ?_⟩
  match j, hj with
  | 0, hj => cases hj; exact c0
  | 1, hj => cases hj; exact c1
  | 2, hj => cases hj; exact c2
  | 3, hj => cases hj; exact c3
  | 4, hj => cases hj; exact c4
theorem open_flds {fuel : Nat} {cs : List Value} {x : DataW H × List MemPlace} (h : DataW.trod enc Try.prog w base spare held fuel 39 cs = some x) :
    ∃ (A : Option Addr) (cap : Nat) (l : List Fld), cs = [.slice A l.length cap] ∧ RowsAt w A 5 (l.map encF) ∧ l.length ≤ maxLen := by
  have hc : Try.prog.cellsOf 43 = 5 := by kernel_rfl
  obtain ⟨A, len, cap, hcs, h1, h2, hi⟩ := open_elems Try.underlying39 (by rw [hc]; decide) h
  rw [hc] at hi
  obtain ⟨l, hlen, hl⟩ := exists_list (α := Fld) (fun i s => ∃ b off, A = some ⟨b, off, none⟩ ∧ ∀ (j : Nat) (v : Value), (encF s)[j]? = some v → w.cell? ⟨b, off + i * 5 + j, none⟩ = some v) len (fun i hil => by
    obtain ⟨b, off, n, cs', y, hA, hlc, hcell, ht, hw⟩ := hi i hil
    obtain ⟨s, hc⟩ := open_fld hlc ht
    exact ⟨s, b, off, hA, fun j v hj => hcell j v (hc j v hj)⟩)
  subst hlen
  refine ⟨A, cap, l, hcs, fun i r hr => ?_, by omega⟩
  rw [List.getElem?_map] at hr
  cases hx : l[i]? with
  | none => rw [hx] at hr; cases hr
  | some s =>
    rw [hx] at hr
    cases hr
    obtain ⟨b, off, h1, h3⟩ := hl i s hx
    exact ⟨b, off, h1, h3⟩
theorem open_tab {fuel : Nat} {cs : List Value} {x : DataW H × List MemPlace} (h : DataW.trod enc Try.prog w base spare held fuel 22 cs = some x) (hsz : ∀ k ∈ x.1.weights Try.prog 22, k ≤ reachBytes) :
    ∃ (A : Option Addr) (cap : Nat) (t : Tab), cs = [.slice A t.length cap] ∧ TabAt w (.slice A t.length cap) t ∧ (∀ ty ∈ t, ty.fs.length ≤ maxLen) ∧ (A = none → cap = 0) ∧ t.length ≤ cap ∧ cap ≤ maxLen := by
  have hc : Try.prog.cellsOf 41 = 3 := by kernel_rfl
  have hc39 : Try.prog.cellsOf 39 = 1 := by kernel_rfl
  have hnone : ∀ A len cap, cs = [.slice A len cap] → A = none → cap = 0 := fun A len cap e1 e2 => by
    rcases Go.Deep.open_slice Try.underlying22 h with ⟨e, _⟩ | ⟨a, len', cap', m, n, D, Pl, hcs, _⟩
    · rw [e] at e1
      simp at e1
      exact e1.2.2.symm
    · rw [hcs, e2] at e1
      simp at e1
  obtain ⟨A, len, cap, hcs, h1, h2, hi⟩ := open_elems Try.underlying22 (by rw [hc]; decide) h
  rw [hc] at hi
  obtain ⟨l, hlen, hl⟩ := exists_list (α := Ty) (fun i s => ∃ b off Af cf, A = some ⟨b, off, none⟩ ∧ w.cell? ⟨b, off + i * 3, none⟩ = some (.string s.name) ∧ w.cell? ⟨b, off + i * 3 + 1, none⟩ = some (.int .i64 s.size) ∧ w.cell? ⟨b, off + i * 3 + 2, none⟩ = some (.slice Af s.fs.length cf) ∧ RowsAt w Af 5 (s.fs.map encF) ∧ s.fs.length ≤ maxLen) len (fun i hil => by
    obtain ⟨b, off, n, cs', y, hA, hlc, hcell, ht, hw⟩ := hi i hil
    obtain ⟨n0, v0, y0, c0, t0, _⟩ := open_field Try.underlying41 ht (j := 0) rfl (by kernel_rfl) (by rw [hlc]; decide)
    obtain ⟨n1, v1, y1, c1, t1, _⟩ := open_field Try.underlying41 ht (j := 1) rfl (by kernel_rfl) (by rw [hlc]; decide)
    obtain ⟨n2, v2, y2, c2, t2, _⟩ := open_field Try.underlying41 ht (j := 2) rfl (by kernel_rfl) (by rw [hlc]; decide)
    obtain ⟨a0, e0, _, g0⟩ := DataW.trod_string Try.underlying9 t0
    obtain ⟨a1, e1, _, g1⟩ := DataW.trod_int Try.underlying3 t1
    obtain ⟨Af, cf, fs, e2, hf, hm⟩ := open_flds t2
    cases e0; cases e1; cases e2
    exact ⟨⟨a0, a1, fs⟩, b, off, Af, cf, hA, hcell 0 _ c0, hcell 1 _ c1, hcell 2 _ c2, hf, hm⟩)
  subst hlen
  refine ⟨A, cap, l, hcs, ⟨A, cap, rfl, fun i ty hty => ?_⟩, fun ty hty => ?_, hnone _ _ _ hcs, h1, h2⟩
  · obtain ⟨b, off, Af, cf, a1, a2, a3, a4, a5, _⟩ := hl i ty hty
    exact ⟨b, off, Af, cf, a1, a2, a3, a4, a5⟩
  · obtain ⟨i, hi'⟩ := List.mem_iff_getElem?.1 hty
    obtain ⟨_, _, _, _, _, _, _, _, _, h⟩ := hl i ty hi'
    exact h
end
end Go.Proofs.Ytojjjkeciiieeaa
