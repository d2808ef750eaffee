/- A slice of bools that came in. -/
import Derived.Test.YtgleceijdedlkaaLawLib
namespace Go.Proofs.Ytgleceijdedlkaa
open Go.RowKit Go.ChangeShapes Go.WideShapes Go.ChangeAt
set_option linter.unusedVariables false
set_option linter.unusedSectionVars false
section
variable {H : Type} {enc : TypeId × Value → H} {P : Program} {w : World} {base : Nat} {spare : Nat → Bool} {held : Bool}
open Go.Deep in
theorem open_boolslice {t e : TypeId} {fuel : Nat} {cs : List Value} {x : DataW H × List MemPlace} (ht : P.underlying t = some (.slice e)) (he : P.underlying e = some .bool)
    (hC : P.cellsOf e = 1) (h : DataW.trod enc P w base spare held fuel t cs = some x) :
    ∃ (A : Option Addr) (cap : Nat) (l : List Bool), cs = [.slice A l.length cap] ∧ l.length ≤ cap ∧ cap ≤ maxLen ∧ RowsAt w A 1 (l.map fun b => [Value.bool b]) := by
  rcases open_slice ht h with ⟨rfl, rfl⟩ | ⟨a, len, cap, m, n, D, Pl, hcs, hb, hl, hm, hmm, hx, hi⟩
  · exact ⟨none, 0, [], rfl, Nat.le_refl _, by unfold maxLen; omega, fun i r hi => by simp at hi⟩
  · obtain ⟨l, hlen, hl'⟩ := exists_list (α := Bool) (fun i b => a.spot = none ∧ w.cell? (a.add i) = some (.bool b)) len (fun i hil => by
      have him : i < m := by rw [hmm]; split <;> omega
      have hcell : ∀ j, j < m → ∃ q, w.cell? (a.add j) = some (.bool q) := fun j hj => by
        obtain ⟨cs', hc, ht'⟩ := hi j hj
        rw [hC, Nat.mul_one] at hc
        obtain ⟨q, hq, _⟩ := DataW.trod_bool he ht'
        obtain ⟨_, hcl, hat⟩ := World.cells?_some hc
        have h2 := hat 0 (by omega)
        rw [hq] at h2
        have h3 : (a.add j).add 0 = a.add j := by simp [Addr.add]
        rw [h3] at h2
        exact ⟨q, h2⟩
      obtain ⟨q0, h0⟩ := hcell 0 (by omega)
      obtain ⟨q, h1⟩ := hcell i him
      have hsp : a.spot = none := by
        have : a.add 0 = a := by simp [Addr.add]
        rw [this] at h0
        exact spot_none h0
      exact ⟨q, hsp, h1⟩)
    subst hlen
    refine ⟨some a, cap, l, hcs, hl, hm, fun i r hr => ?_⟩
    rw [List.getElem?_map] at hr
    cases hb' : l[i]? with
    | none => rw [hb'] at hr; cases hr
    | some b =>
      rw [hb'] at hr
      cases hr
      obtain ⟨h1, h2⟩ := hl' i b hb'
      obtain ⟨g, off, sp⟩ := a
      simp only at h1
      subst h1
      refine ⟨g, off, rfl, fun j v hj => ?_⟩
      match j, hj with
      | 0, hj =>
        cases hj
        rw [addr_add] at h2
        simpa using h2
end
end Go.Proofs.Ytgleceijdedlkaa
