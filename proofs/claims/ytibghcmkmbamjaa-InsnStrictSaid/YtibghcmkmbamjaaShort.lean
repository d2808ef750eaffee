/- Short names for laws that a long walk uses at every step. -/
import Derived.Test.YtibghcmkmbamjaaWWords
namespace Go.Proofs.Ytibghcmkmbamjaa.PI
theorem am {p : Prop} (h : p) : Go.Proofs.YtibghcmkmbamjaaW.PrintWords.Aside0 p := ⟨h⟩
/-- A row of n marks out of a number's bits. -/
def ar (n m : Nat) : Array Bool := ((List.range n).map (Nat.testBit m)).toArray
theorem q1 {α : Type} (l : List α) (i : Nat) (a : α) : l.toArray.setIfInBounds i a = (l.set i a).toArray := List.setIfInBounds_toArray l i a
theorem q2 {α : Type} {x : α} {xs : List α} {a : α} : (x :: xs).set 0 a = a :: xs := rfl
theorem q3 {α : Type} {x : α} {xs : List α} {i : Nat} {a : α} : (x :: xs).set (i + 1) a = x :: xs.set i a := rfl
open Go.RowKit in
theorem pb {B : Nat} {w W : World} (h : Below B w W) (n : Nat) : Below B w (W.drewN n) := Go.Proofs.YtibghcmkmbamjaaW.PrintWords.pw_below_drewN h n
open Go.RowKit in
theorem pa {w W : World} (h : Below w.heap.size w W) (o : Obj) : Below w.heap.size w (W.alloc o) := Go.Proofs.YtibghcmkmbamjaaW.PrintWords.below_alloc h o
open Go.RowKit in
theorem pd {B : Nat} {w W : World} (h : Below B w W) : Below B w W.drew := ⟨h.os, h.tape, h.output, h.size, h.block⟩
end Go.Proofs.Ytibghcmkmbamjaa.PI
