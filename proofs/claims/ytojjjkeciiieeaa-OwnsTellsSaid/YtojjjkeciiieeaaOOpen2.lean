/- A table of types that came in, with the rooms of its fields. -/
import Derived.Test.YtojjjkeciiieeaaOOpen
import Derived.Test.YtojjjkeciiieeaaOFld
import Derived.Test.YtojjjkeciiieeaaOpenLib
namespace Go.Proofs.Ytojjjkeciiieeaa
open Go.RowKit Go.ChangeShapes Go.WideShapes Go.ChangeAt
set_option linter.unusedVariables false
set_option linter.unusedSimpArgs false
def Caps (w : World) (A : Option Addr) (t : Tab) : Prop := ∀ (i : Nat) (ty : Ty), t[i]? = some ty → ∃ b off Af cf, A = some ⟨b, off, none⟩ ∧ w.cell? ⟨b, off + i * 3 + 2, none⟩ = some (.slice Af ty.fs.length cf) ∧ ty.fs.length ≤ cf ∧ cf ≤ maxLen ∧ (Af = none → cf = 0)
section
variable {H : Type} {enc : TypeId × Value → H} {w : World} {base : Nat} {spare : Nat → Bool} {held : Bool}
theorem open_flds2 {fuel : Nat} {cs : List Value} {x : DataW H × List MemPlace} (h : DataW.trod enc Try.prog w base spare held fuel 39 cs = some x) :
    ∃ (A : Option Addr) (cap : Nat) (l : List Fld), cs = [.slice A l.length cap] ∧ RowsAt w A 5 (l.map encF) ∧ l.length ≤ maxLen ∧ l.length ≤ cap ∧ cap ≤ maxLen ∧ (A = none → cap = 0) := by
  have hc : Try.prog.cellsOf 43 = 5 := by kernel_rfl
  have hnone : ∀ A len cap, cs = [.slice A len cap] → A = none → cap = 0 := fun A len cap e1 e2 => by
    rcases Go.Deep.open_slice Try.underlying39 h with ⟨e, _⟩ | ⟨a, len', cap', m, n, D, Pl, hcs, _⟩
    · rw [e] at e1
      simp at e1
      exact e1.2.2.symm
    · rw [hcs, e2] at e1
      simp at e1
  obtain ⟨A, len, cap, hcs, h1, h2, hi⟩ := open_elems Try.underlying39 (by rw [hc]; decide) h
  rw [hc] at hi
  obtain ⟨l, hlen, hl⟩ := exists_list (α := Fld) (fun i s => ∃ b off, A = some ⟨b, off, none⟩ ∧ ∀ (j : Nat) (v : Value), (encF s)[j]? = some v → w.cell? ⟨b, off + i * 5 + j, none⟩ = some v) len (fun i hil => by
    obtain ⟨b, off, n, cs', y, hA, hlc, hcell, ht, hw⟩ := hi i hil
    obtain ⟨s, hc⟩ := open_fld hlc ht
    exact ⟨s, b, off, hA, fun j v hj => hcell j v (hc j v hj)⟩)
  subst hlen
  refine ⟨A, cap, l, hcs, fun i r hr => ?_, by omega, h1, h2, hnone _ _ _ hcs⟩
  rw [List.getElem?_map] at hr
  cases hx : l[i]? with
  | none => rw [hx] at hr; cases hr
  | some s =>
    rw [hx] at hr
    cases hr
    obtain ⟨b, off, h1, h3⟩ := hl i s hx
    exact ⟨b, off, h1, h3⟩
theorem open_tab2 {fuel : Nat} {cs : List Value} {x : DataW H × List MemPlace} (h : DataW.trod enc Try.prog w base spare held fuel 22 cs = some x) (hsz : ∀ k ∈ x.1.weights Try.prog 22, k ≤ reachBytes) :
    ∃ (A : Option Addr) (cap : Nat) (t : Tab), cs = [.slice A t.length cap] ∧ TabAt w (.slice A t.length cap) t ∧ (∀ ty ∈ t, ty.fs.length ≤ maxLen) ∧ (A = none → cap = 0) ∧ t.length ≤ cap ∧ cap ≤ maxLen ∧ Caps w A t := by
  have hc : Try.prog.cellsOf 41 = 3 := by kernel_rfl
  have hc39 : Try.prog.cellsOf 39 = 1 := by kernel_rfl
  have hnone : ∀ A len cap, cs = [.slice A len cap] → A = none → cap = 0 := fun A len cap e1 e2 => by
    rcases Go.Deep.open_slice Try.underlying22 h with ⟨e, _⟩ | ⟨a, len', cap', m, n, D, Pl, hcs, _⟩
    · rw [e] at e1
      simp at e1
      exact e1.2.2.symm
    · rw [hcs, e2] at e1
      simp at e1
  obtain ⟨A, len, cap, hcs, h1, h2, hi⟩ := open_elems Try.underlying22 (by rw [hc]; decide) h
  rw [hc] at hi
  obtain ⟨l, hlen, hl⟩ := exists_list (α := Ty) (fun i s => ∃ b off Af cf, A = some ⟨b, off, none⟩ ∧ w.cell? ⟨b, off + i * 3, none⟩ = some (.string s.name) ∧ w.cell? ⟨b, off + i * 3 + 1, none⟩ = some (.int .i64 s.size) ∧ w.cell? ⟨b, off + i * 3 + 2, none⟩ = some (.slice Af s.fs.length cf) ∧ RowsAt w Af 5 (s.fs.map encF) ∧ s.fs.length ≤ maxLen ∧ s.fs.length ≤ cf ∧ cf ≤ maxLen ∧ (Af = none → cf = 0)) len (fun i hil => by
    obtain ⟨b, off, n, cs', y, hA, hlc, hcell, ht, hw⟩ := hi i hil
    obtain ⟨n0, v0, y0, c0, t0, _⟩ := open_field Try.underlying41 ht (j := 0) rfl (by kernel_rfl) (by rw [hlc]; decide)
    obtain ⟨n1, v1, y1, c1, t1, _⟩ := open_field Try.underlying41 ht (j := 1) rfl (by kernel_rfl) (by rw [hlc]; decide)
    obtain ⟨n2, v2, y2, c2, t2, _⟩ := open_field Try.underlying41 ht (j := 2) rfl (by kernel_rfl) (by rw [hlc]; decide)
    obtain ⟨a0, e0, _, g0⟩ := DataW.trod_string Try.underlying9 t0
    obtain ⟨a1, e1, _, g1⟩ := DataW.trod_int Try.underlying3 t1
    obtain ⟨Af, cf, fs, e2, hf, hm, hm1, hm2, hm3⟩ := open_flds2 t2
    cases e0; cases e1; cases e2
    exact ⟨⟨a0, a1, fs⟩, b, off, Af, cf, hA, hcell 0 _ c0, hcell 1 _ c1, hcell 2 _ c2, hf, hm, hm1, hm2, hm3⟩)
  subst hlen
  refine ⟨A, cap, l, hcs, ⟨A, cap, rfl, fun i ty hty => ?_⟩, fun ty hty => ?_, hnone _ _ _ hcs, h1, h2, fun i ty hty => ?_⟩
  · obtain ⟨b, off, Af, cf, a1, a2, a3, a4, a5, _⟩ := hl i ty hty
    exact ⟨b, off, Af, cf, a1, a2, a3, a4, a5⟩
  · obtain ⟨i, hi'⟩ := List.mem_iff_getElem?.1 hty
    obtain ⟨_, _, _, _, _, _, _, _, _, h, _⟩ := hl i ty hi'
    exact h
  · obtain ⟨b, off, Af, cf, a1, a2, a3, a4, a5, a6, a7, a8, a9⟩ := hl i ty hty
    exact ⟨b, off, Af, cf, a1, a4, a7, a8, a9⟩
end
end Go.Proofs.Ytojjjkeciiieeaa
