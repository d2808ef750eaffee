/-
  No cell of these rows narrows 'for every input' (looked for: loops, veiled, ifaces, maps, wideKeys, modest, calm, conditions, laid).
  DERIVED. THE GIVEN ROWS OF THIS SEAT. 5 by the template 'for every input the law returns true; each argument reads behind the call as it read before'; 0 by the template 'total and deterministic' (their statements: YtagjcnhgappcjaaTotals.lean).
  GIVEN WITH THE SEED: the statements are not yours to turn. If you find one false, say at which input.
  Laid BY PROGRAM, IN A SANDBOX (cutbox-rows.mjs): the forced cells as the released guide's own fill.sh prints them over the translation 963bcbf3b07fe547… (all of the seat's roots in one cut). By AI agents, Wed Nov 11 2026. No macro, syntax, notation, axiom, sorry.
-/
import Derived.Test.YtagjcnhgappcjaaChecked
import GoSem.Claim
import GoSem.ClaimJoined
import GoSem.ClaimMapViews
import Derived.JoinedTies
import Derived.KernelRfl
namespace Go.Proofs.Ytagjcnhgappcjaa
/- THE CELL 'sum', in the pinned program and in every row, IS THE sha256 OF THE DUMP (.gsa) THAT YtagjcnhgappcjaaProg.lean LOADS. Nothing in Lean hashes anything: it is a label: what it is worth is what the hold of that sum in a sandbox is worth. -/
noncomputable def Try.pinned : Pinned := { name := "ytagjcnhgappcjaa", sum := "963bcbf3b07fe547ddda1da889104b98f3fc72916c62f5b410598c318b710989", checked := Try.checked }
namespace Rows
def none {H : Type} : Left H := { results := [], args := [] }

/-- 'wardenlaw20.HashKeeps': WHATEVER THE INPUT: true; the input reads as it did. -/
def hashKeepsSpec : ChangeSpec := { name := "hashKeeps", fn := fun _ => fun
  | [d1, d2, d3, d4, d5] => { results := [.lit (.bool true)], args := [d1, d2, d3, d4, d5] }
  | _ => none }
def hashKeepsRow : OpenClaim := { program := "ytagjcnhgappcjaa", sum := "963bcbf3b07fe547ddda1da889104b98f3fc72916c62f5b410598c318b710989", func := "warden/wardenlaw20.HashKeeps", spec := "hashKeeps", unfollowed := true, recurses := true, apart := false }
def HashKeepsSaid : Prop := hashKeepsRow.holds Try.pinned (OpenSpec.ofChange hashKeepsSpec)

/-- ITS FALSE NEIGHBOUR: 'it returns false'. Refute it at one input. -/
def hashKeepsWrong : ChangeSpec := { name := "hashKeeps", fn := fun _ => fun
  | [d1, d2, d3, d4, d5] => { results := [.lit (.bool false)], args := [d1, d2, d3, d4, d5] }
  | _ => none }
def HashKeepsWrongFalsely : Prop := hashKeepsRow.holds Try.pinned (OpenSpec.ofChange hashKeepsWrong)

/-- 'wardenlaw20.HashPlays': WHATEVER THE INPUT: true; the input reads as it did. -/
def hashPlaysSpec : ChangeSpec := { name := "hashPlays", fn := fun _ => fun
  | [d1, d2, d3] => { results := [.lit (.bool true)], args := [d1, d2, d3] }
  | _ => none }
def hashPlaysRow : OpenClaim := { program := "ytagjcnhgappcjaa", sum := "963bcbf3b07fe547ddda1da889104b98f3fc72916c62f5b410598c318b710989", func := "warden/wardenlaw20.HashPlays", spec := "hashPlays", unfollowed := true, recurses := true, apart := false }
def HashPlaysSaid : Prop := hashPlaysRow.holds Try.pinned (OpenSpec.ofChange hashPlaysSpec)

/-- ITS FALSE NEIGHBOUR: 'it returns false'. Refute it at one input. -/
def hashPlaysWrong : ChangeSpec := { name := "hashPlays", fn := fun _ => fun
  | [d1, d2, d3] => { results := [.lit (.bool false)], args := [d1, d2, d3] }
  | _ => none }
def HashPlaysWrongFalsely : Prop := hashPlaysRow.holds Try.pinned (OpenSpec.ofChange hashPlaysWrong)

/-- 'wardenlaw20.HashMap': WHATEVER THE INPUT: true; the input reads as it did. -/
def hashMapSpec : ChangeSpec := { name := "hashMap", fn := fun _ => fun
  | [d1, d2] => { results := [.lit (.bool true)], args := [d1, d2] }
  | _ => none }
def hashMapRow : OpenClaim := { program := "ytagjcnhgappcjaa", sum := "963bcbf3b07fe547ddda1da889104b98f3fc72916c62f5b410598c318b710989", func := "warden/wardenlaw20.HashMap", spec := "hashMap", unfollowed := true, recurses := true, apart := false }
def HashMapSaid : Prop := hashMapRow.holds Try.pinned (OpenSpec.ofChange hashMapSpec)

/-- ITS FALSE NEIGHBOUR: 'it returns false'. Refute it at one input. -/
def hashMapWrong : ChangeSpec := { name := "hashMap", fn := fun _ => fun
  | [d1, d2] => { results := [.lit (.bool false)], args := [d1, d2] }
  | _ => none }
def HashMapWrongFalsely : Prop := hashMapRow.holds Try.pinned (OpenSpec.ofChange hashMapWrong)

/-- 'wardenlaw20.HashNil': WHATEVER THE INPUT: true; the input reads as it did. -/
def hashNilSpec : ChangeSpec := { name := "hashNil", fn := fun _ => fun
  | [d1, d2] => { results := [.lit (.bool true)], args := [d1, d2] }
  | _ => none }
def hashNilRow : OpenClaim := { program := "ytagjcnhgappcjaa", sum := "963bcbf3b07fe547ddda1da889104b98f3fc72916c62f5b410598c318b710989", func := "warden/wardenlaw20.HashNil", spec := "hashNil", unfollowed := true, recurses := true, apart := false }
def HashNilSaid : Prop := hashNilRow.holds Try.pinned (OpenSpec.ofChange hashNilSpec)

/-- ITS FALSE NEIGHBOUR: 'it returns false'. Refute it at one input. -/
def hashNilWrong : ChangeSpec := { name := "hashNil", fn := fun _ => fun
  | [d1, d2] => { results := [.lit (.bool false)], args := [d1, d2] }
  | _ => none }
def HashNilWrongFalsely : Prop := hashNilRow.holds Try.pinned (OpenSpec.ofChange hashNilWrong)

/-- 'wardenlaw20.HashOrder': WHATEVER THE INPUT: true; the input reads as it did. -/
def hashOrderSpec : ChangeSpec := { name := "hashOrder", fn := fun _ => fun
  | [d1, d2] => { results := [.lit (.bool true)], args := [d1, d2] }
  | _ => none }
def hashOrderRow : OpenClaim := { program := "ytagjcnhgappcjaa", sum := "963bcbf3b07fe547ddda1da889104b98f3fc72916c62f5b410598c318b710989", func := "warden/wardenlaw20.HashOrder", spec := "hashOrder", unfollowed := true, recurses := true, apart := false }
def HashOrderSaid : Prop := hashOrderRow.holds Try.pinned (OpenSpec.ofChange hashOrderSpec)

/-- ITS FALSE NEIGHBOUR: 'it returns false'. Refute it at one input. -/
def hashOrderWrong : ChangeSpec := { name := "hashOrder", fn := fun _ => fun
  | [d1, d2] => { results := [.lit (.bool false)], args := [d1, d2] }
  | _ => none }
def HashOrderWrongFalsely : Prop := hashOrderRow.holds Try.pinned (OpenSpec.ofChange hashOrderWrong)

/- THE SECOND FORM. 'bulk': how many values and letters a reading holds, each counted each time it is reached (what is shared counts as often as it is met; a slice's spare places count too). A statement '..UptoSaid' is the law's where the arguments, and the package variables that the reading takes, are together of bulk at most 1048576: NARROWER than '..Said'. Prove '..Said' where nothing that the law and all that it calls make is longer than what came in: it says more and counts as full. Else prove '..UptoSaid'. A law counts once. -/
mutual
def uptoBulk {H : Type} : DataW H → Nat
  | .lit (.string bytes) => bytes.length + 1
  | .lit _ => 1
  | .nil => 1
  | .ptr d => uptoBulk d + 1
  | .slice elems spare => uptoBulkAll elems + uptoBulkAll spare + 1
  | .agg parts => uptoBulkAll parts + 1
  | .iface _ d => uptoBulk d + 1
  | .map entries => uptoBulkEntries entries + 1
  | .held _ => 1
def uptoBulkAll {H : Type} : List (DataW H) → Nat
  | [] => 0
  | d :: r => uptoBulk d + uptoBulkAll r
def uptoBulkEntries {H : Type} : List (Lit × DataW H) → Nat
  | [] => 0
  | x :: r => uptoBulkEntry x + uptoBulkEntries r
def uptoBulkEntry {H : Type} : Lit × DataW H → Nat
  | (.string bytes, d) => bytes.length + uptoBulk d + 1
  | (_, d) => uptoBulk d + 1
 end
def uptoSmall : (H : Type) → List (DataW H) → Bool := fun _ ds => decide (uptoBulkAll ds ≤ 1048576)
def OpenSpec.upto (s : _root_.Go.ChangeSpec) : _root_.Go.OpenSpec := { _root_.Go.OpenSpec.ofChange s with cond := some uptoSmall }

/-- 'wardenlaw20.HashKeeps', WHERE WHAT IT READS IS OF BULK AT MOST 1048576: true; the input reads as it did. -/
def hashKeepsUptoRow : OpenClaim := { program := "ytagjcnhgappcjaa", sum := "963bcbf3b07fe547ddda1da889104b98f3fc72916c62f5b410598c318b710989", func := "warden/wardenlaw20.HashKeeps", spec := "hashKeeps", unfollowed := true, recurses := true, apart := false, narrowed := true }
def HashKeepsUptoSaid : Prop := hashKeepsUptoRow.holds Try.pinned (OpenSpec.upto hashKeepsSpec)

/-- 'wardenlaw20.HashPlays', WHERE WHAT IT READS IS OF BULK AT MOST 1048576: true; the input reads as it did. -/
def hashPlaysUptoRow : OpenClaim := { program := "ytagjcnhgappcjaa", sum := "963bcbf3b07fe547ddda1da889104b98f3fc72916c62f5b410598c318b710989", func := "warden/wardenlaw20.HashPlays", spec := "hashPlays", unfollowed := true, recurses := true, apart := false, narrowed := true }
def HashPlaysUptoSaid : Prop := hashPlaysUptoRow.holds Try.pinned (OpenSpec.upto hashPlaysSpec)

/-- 'wardenlaw20.HashMap', WHERE WHAT IT READS IS OF BULK AT MOST 1048576: true; the input reads as it did. -/
def hashMapUptoRow : OpenClaim := { program := "ytagjcnhgappcjaa", sum := "963bcbf3b07fe547ddda1da889104b98f3fc72916c62f5b410598c318b710989", func := "warden/wardenlaw20.HashMap", spec := "hashMap", unfollowed := true, recurses := true, apart := false, narrowed := true }
def HashMapUptoSaid : Prop := hashMapUptoRow.holds Try.pinned (OpenSpec.upto hashMapSpec)

/-- 'wardenlaw20.HashNil', WHERE WHAT IT READS IS OF BULK AT MOST 1048576: true; the input reads as it did. -/
def hashNilUptoRow : OpenClaim := { program := "ytagjcnhgappcjaa", sum := "963bcbf3b07fe547ddda1da889104b98f3fc72916c62f5b410598c318b710989", func := "warden/wardenlaw20.HashNil", spec := "hashNil", unfollowed := true, recurses := true, apart := false, narrowed := true }
def HashNilUptoSaid : Prop := hashNilUptoRow.holds Try.pinned (OpenSpec.upto hashNilSpec)

/-- 'wardenlaw20.HashOrder', WHERE WHAT IT READS IS OF BULK AT MOST 1048576: true; the input reads as it did. -/
def hashOrderUptoRow : OpenClaim := { program := "ytagjcnhgappcjaa", sum := "963bcbf3b07fe547ddda1da889104b98f3fc72916c62f5b410598c318b710989", func := "warden/wardenlaw20.HashOrder", spec := "hashOrder", unfollowed := true, recurses := true, apart := false, narrowed := true }
def HashOrderUptoSaid : Prop := hashOrderUptoRow.holds Try.pinned (OpenSpec.upto hashOrderSpec)

end Rows
end Go.Proofs.Ytagjcnhgappcjaa
