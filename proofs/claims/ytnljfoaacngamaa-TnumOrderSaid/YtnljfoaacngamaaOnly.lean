/- A way that answers false answers not true: small laws on such chains. -/
import Derived.Test.YtnljfoaacngamaaProg
namespace Go.Proofs.Ytnljfoaacngamaa
theorem OnlyF.none : (none : Option Bool) ≠ some true := by simp
theorem OnlyF.no : (some false : Option Bool) ≠ some true := by simp
theorem OnlyF.bind {α : Type} {o : Option α} {f : α → Option Bool} (h : ∀ x, f x ≠ some true) : o.bind f ≠ some true := by
  intro e
  obtain ⟨x, _, hx⟩ := Option.bind_eq_some_iff.1 e
  exact h x hx
theorem OnlyF.ite {c : Prop} [Decidable c] {a b : Option Bool} (h : a ≠ some true) (k : b ≠ some true) : (if c then a else b) ≠ some true := by
  split
  · exact h
  · exact k
theorem OnlyF.iteF {a b : Option Bool} (k : b ≠ some true) : (if false = true then a else b) ≠ some true := by
  rw [if_neg (by decide)]; exact k
end Go.Proofs.Ytnljfoaacngamaa
