/- Short names for laws that a long walk uses at every step. -/
import Derived.Test.YtnljfoaacngamaaWWords
namespace Go.Proofs.Ytnljfoaacngamaa.PD
theorem am {p : Prop} (h : p) : Go.Proofs.YtnljfoaacngamaaW.PrintWords.Aside0 p := ⟨h⟩
/-- A row of n marks out of a number's bits. -/
def ar (n m : Nat) : Array Bool := ((List.range n).map (Nat.testBit m)).toArray
theorem q1 {α : Type} (l : List α) (i : Nat) (a : α) : l.toArray.setIfInBounds i a = (l.set i a).toArray := List.setIfInBounds_toArray l i a
theorem q2 {α : Type} {x : α} {xs : List α} {a : α} : (x :: xs).set 0 a = a :: xs := rfl
theorem q3 {α : Type} {x : α} {xs : List α} {i : Nat} {a : α} : (x :: xs).set (i + 1) a = x :: xs.set i a := rfl
end Go.Proofs.Ytnljfoaacngamaa.PD
