/-
  No cell of these rows narrows 'for every input' (looked for: loops, veiled, ifaces, maps, wideKeys, modest, calm, conditions, laid).
  DERIVED. THE GIVEN ROWS OF THIS SEAT. 6 by the template 'for every input the law returns true; each argument reads behind the call as it read before'; 0 by the template 'total and deterministic' (their statements: YtnljfoaacngamaaTotals.lean).
  GIVEN WITH THE SEED: the statements are not yours to turn. If you find one false, say at which input.
  Laid BY PROGRAM, IN A SANDBOX (cutbox-rows.mjs): the forced cells as the released guide's own fill.sh prints them over the translation 5cecbea9dd0d275d… (all of the seat's roots in one cut). By AI agents, Wed Nov 11 2026. No macro, syntax, notation, axiom, sorry.
-/
import Derived.Test.YtnljfoaacngamaaChecked
import GoSem.Claim
import GoSem.ClaimJoined
import GoSem.ClaimMapViews
import Derived.JoinedTies
import Derived.KernelRfl
namespace Go.Proofs.Ytnljfoaacngamaa
/- THE CELL 'sum', in the pinned program and in every row, IS THE sha256 OF THE DUMP (.gsa) THAT YtnljfoaacngamaaProg.lean LOADS. Nothing in Lean hashes anything: it is a label: what it is worth is what the hold of that sum in a sandbox is worth. -/
noncomputable def Try.pinned : Pinned := { name := "ytnljfoaacngamaa", sum := "5cecbea9dd0d275d6df5d39727d997a9f41e7fc469608c2242a04caff24d6e0b", checked := Try.checked }
namespace Rows
def none {H : Type} : Left H := { results := [], args := [] }

/-- 'wardenlaw03.TnumSets': WHATEVER THE INPUT: true; the input reads as it did. -/
def tnumSetsSpec : ChangeSpec := { name := "tnumSets", fn := fun _ => fun
  | [d1, d2, d3, d4, d5, d6] => { results := [.lit (.bool true)], args := [d1, d2, d3, d4, d5, d6] }
  | _ => none }
def tnumSetsRow : OpenClaim := { program := "ytnljfoaacngamaa", sum := "5cecbea9dd0d275d6df5d39727d997a9f41e7fc469608c2242a04caff24d6e0b", func := "warden/wardenlaw03.TnumSets", spec := "tnumSets", apart := false }
def TnumSetsSaid : Prop := tnumSetsRow.holds Try.pinned (OpenSpec.ofChange tnumSetsSpec)

/-- ITS FALSE NEIGHBOUR: 'it returns false'. Refute it at one input. -/
def tnumSetsWrong : ChangeSpec := { name := "tnumSets", fn := fun _ => fun
  | [d1, d2, d3, d4, d5, d6] => { results := [.lit (.bool false)], args := [d1, d2, d3, d4, d5, d6] }
  | _ => none }
def TnumSetsWrongFalsely : Prop := tnumSetsRow.holds Try.pinned (OpenSpec.ofChange tnumSetsWrong)

/-- 'wardenlaw03.TnumShifts': WHATEVER THE INPUT: true; the input reads as it did. -/
def tnumShiftsSpec : ChangeSpec := { name := "tnumShifts", fn := fun _ => fun
  | [d1, d2, d3, d4] => { results := [.lit (.bool true)], args := [d1, d2, d3, d4] }
  | _ => none }
def tnumShiftsRow : OpenClaim := { program := "ytnljfoaacngamaa", sum := "5cecbea9dd0d275d6df5d39727d997a9f41e7fc469608c2242a04caff24d6e0b", func := "warden/wardenlaw03.TnumShifts", spec := "tnumShifts", apart := false }
def TnumShiftsSaid : Prop := tnumShiftsRow.holds Try.pinned (OpenSpec.ofChange tnumShiftsSpec)

/-- ITS FALSE NEIGHBOUR: 'it returns false'. Refute it at one input. -/
def tnumShiftsWrong : ChangeSpec := { name := "tnumShifts", fn := fun _ => fun
  | [d1, d2, d3, d4] => { results := [.lit (.bool false)], args := [d1, d2, d3, d4] }
  | _ => none }
def TnumShiftsWrongFalsely : Prop := tnumShiftsRow.holds Try.pinned (OpenSpec.ofChange tnumShiftsWrong)

/-- 'wardenlaw03.TnumReckons': WHATEVER THE INPUT: true; the input reads as it did. -/
def tnumReckonsSpec : ChangeSpec := { name := "tnumReckons", fn := fun _ => fun
  | [d1, d2, d3, d4, d5] => { results := [.lit (.bool true)], args := [d1, d2, d3, d4, d5] }
  | _ => none }
def tnumReckonsRow : OpenClaim := { program := "ytnljfoaacngamaa", sum := "5cecbea9dd0d275d6df5d39727d997a9f41e7fc469608c2242a04caff24d6e0b", func := "warden/wardenlaw03.TnumReckons", spec := "tnumReckons", apart := false }
def TnumReckonsSaid : Prop := tnumReckonsRow.holds Try.pinned (OpenSpec.ofChange tnumReckonsSpec)

/-- ITS FALSE NEIGHBOUR: 'it returns false'. Refute it at one input. -/
def tnumReckonsWrong : ChangeSpec := { name := "tnumReckons", fn := fun _ => fun
  | [d1, d2, d3, d4, d5] => { results := [.lit (.bool false)], args := [d1, d2, d3, d4, d5] }
  | _ => none }
def TnumReckonsWrongFalsely : Prop := tnumReckonsRow.holds Try.pinned (OpenSpec.ofChange tnumReckonsWrong)

/-- 'wardenlaw03.TnumOrder': WHATEVER THE INPUT: true; the input reads as it did. -/
def tnumOrderSpec : ChangeSpec := { name := "tnumOrder", fn := fun _ => fun
  | [d1, d2, d3, d4, d5, d6, d7] => { results := [.lit (.bool true)], args := [d1, d2, d3, d4, d5, d6, d7] }
  | _ => none }
def tnumOrderRow : OpenClaim := { program := "ytnljfoaacngamaa", sum := "5cecbea9dd0d275d6df5d39727d997a9f41e7fc469608c2242a04caff24d6e0b", func := "warden/wardenlaw03.TnumOrder", spec := "tnumOrder", apart := false }
def TnumOrderSaid : Prop := tnumOrderRow.holds Try.pinned (OpenSpec.ofChange tnumOrderSpec)

/-- ITS FALSE NEIGHBOUR: 'it returns false'. Refute it at one input. -/
def tnumOrderWrong : ChangeSpec := { name := "tnumOrder", fn := fun _ => fun
  | [d1, d2, d3, d4, d5, d6, d7] => { results := [.lit (.bool false)], args := [d1, d2, d3, d4, d5, d6, d7] }
  | _ => none }
def TnumOrderWrongFalsely : Prop := tnumOrderRow.holds Try.pinned (OpenSpec.ofChange tnumOrderWrong)

/-- 'wardenlaw03.TnumSides': WHATEVER THE INPUT: true; the input reads as it did. -/
def tnumSidesSpec : ChangeSpec := { name := "tnumSides", fn := fun _ => fun
  | [d1, d2, d3, d4] => { results := [.lit (.bool true)], args := [d1, d2, d3, d4] }
  | _ => none }
def tnumSidesRow : OpenClaim := { program := "ytnljfoaacngamaa", sum := "5cecbea9dd0d275d6df5d39727d997a9f41e7fc469608c2242a04caff24d6e0b", func := "warden/wardenlaw03.TnumSides", spec := "tnumSides", apart := false }
def TnumSidesSaid : Prop := tnumSidesRow.holds Try.pinned (OpenSpec.ofChange tnumSidesSpec)

/-- ITS FALSE NEIGHBOUR: 'it returns false'. Refute it at one input. -/
def tnumSidesWrong : ChangeSpec := { name := "tnumSides", fn := fun _ => fun
  | [d1, d2, d3, d4] => { results := [.lit (.bool false)], args := [d1, d2, d3, d4] }
  | _ => none }
def TnumSidesWrongFalsely : Prop := tnumSidesRow.holds Try.pinned (OpenSpec.ofChange tnumSidesWrong)

/-- 'wardenlaw03.TnumSound': WHATEVER THE INPUT: true; the input reads as it did. -/
def tnumSoundSpec : ChangeSpec := { name := "tnumSound", fn := fun _ => fun
  | [d1, d2, d3, d4, d5, d6, d7] => { results := [.lit (.bool true)], args := [d1, d2, d3, d4, d5, d6, d7] }
  | _ => none }
def tnumSoundRow : OpenClaim := { program := "ytnljfoaacngamaa", sum := "5cecbea9dd0d275d6df5d39727d997a9f41e7fc469608c2242a04caff24d6e0b", func := "warden/wardenlaw03.TnumSound", spec := "tnumSound", apart := false }
def TnumSoundSaid : Prop := tnumSoundRow.holds Try.pinned (OpenSpec.ofChange tnumSoundSpec)

/-- ITS FALSE NEIGHBOUR: 'it returns false'. Refute it at one input. -/
def tnumSoundWrong : ChangeSpec := { name := "tnumSound", fn := fun _ => fun
  | [d1, d2, d3, d4, d5, d6, d7] => { results := [.lit (.bool false)], args := [d1, d2, d3, d4, d5, d6, d7] }
  | _ => none }
def TnumSoundWrongFalsely : Prop := tnumSoundRow.holds Try.pinned (OpenSpec.ofChange tnumSoundWrong)

/- THE SECOND FORM. 'bulk': how many values and letters a reading holds, each counted each time it is reached (what is shared counts as often as it is met; a slice's spare places count too). A statement '..UptoSaid' is the law's where the arguments, and the package variables that the reading takes, are together of bulk at most 1048576: NARROWER than '..Said'. Prove '..Said' where nothing that the law and all that it calls make is longer than what came in: it says more and counts as full. Else prove '..UptoSaid'. A law counts once. -/
mutual
def uptoBulk {H : Type} : DataW H → Nat
  | .lit (.string bytes) => bytes.length + 1
  | .lit _ => 1
  | .nil => 1
  | .ptr d => uptoBulk d + 1
  | .slice elems spare => uptoBulkAll elems + uptoBulkAll spare + 1
  | .agg parts => uptoBulkAll parts + 1
  | .iface _ d => uptoBulk d + 1
  | .map entries => uptoBulkEntries entries + 1
  | .held _ => 1
def uptoBulkAll {H : Type} : List (DataW H) → Nat
  | [] => 0
  | d :: r => uptoBulk d + uptoBulkAll r
def uptoBulkEntries {H : Type} : List (Lit × DataW H) → Nat
  | [] => 0
  | x :: r => uptoBulkEntry x + uptoBulkEntries r
def uptoBulkEntry {H : Type} : Lit × DataW H → Nat
  | (.string bytes, d) => bytes.length + uptoBulk d + 1
  | (_, d) => uptoBulk d + 1
 end
def uptoSmall : (H : Type) → List (DataW H) → Bool := fun _ ds => decide (uptoBulkAll ds ≤ 1048576)
def OpenSpec.upto (s : _root_.Go.ChangeSpec) : _root_.Go.OpenSpec := { _root_.Go.OpenSpec.ofChange s with cond := some uptoSmall }

/-- 'wardenlaw03.TnumSets', WHERE WHAT IT READS IS OF BULK AT MOST 1048576: true; the input reads as it did. -/
def tnumSetsUptoRow : OpenClaim := { program := "ytnljfoaacngamaa", sum := "5cecbea9dd0d275d6df5d39727d997a9f41e7fc469608c2242a04caff24d6e0b", func := "warden/wardenlaw03.TnumSets", spec := "tnumSets", apart := false, narrowed := true }
def TnumSetsUptoSaid : Prop := tnumSetsUptoRow.holds Try.pinned (OpenSpec.upto tnumSetsSpec)

/-- 'wardenlaw03.TnumShifts', WHERE WHAT IT READS IS OF BULK AT MOST 1048576: true; the input reads as it did. -/
def tnumShiftsUptoRow : OpenClaim := { program := "ytnljfoaacngamaa", sum := "5cecbea9dd0d275d6df5d39727d997a9f41e7fc469608c2242a04caff24d6e0b", func := "warden/wardenlaw03.TnumShifts", spec := "tnumShifts", apart := false, narrowed := true }
def TnumShiftsUptoSaid : Prop := tnumShiftsUptoRow.holds Try.pinned (OpenSpec.upto tnumShiftsSpec)

/-- 'wardenlaw03.TnumReckons', WHERE WHAT IT READS IS OF BULK AT MOST 1048576: true; the input reads as it did. -/
def tnumReckonsUptoRow : OpenClaim := { program := "ytnljfoaacngamaa", sum := "5cecbea9dd0d275d6df5d39727d997a9f41e7fc469608c2242a04caff24d6e0b", func := "warden/wardenlaw03.TnumReckons", spec := "tnumReckons", apart := false, narrowed := true }
def TnumReckonsUptoSaid : Prop := tnumReckonsUptoRow.holds Try.pinned (OpenSpec.upto tnumReckonsSpec)

/-- 'wardenlaw03.TnumOrder', WHERE WHAT IT READS IS OF BULK AT MOST 1048576: true; the input reads as it did. -/
def tnumOrderUptoRow : OpenClaim := { program := "ytnljfoaacngamaa", sum := "5cecbea9dd0d275d6df5d39727d997a9f41e7fc469608c2242a04caff24d6e0b", func := "warden/wardenlaw03.TnumOrder", spec := "tnumOrder", apart := false, narrowed := true }
def TnumOrderUptoSaid : Prop := tnumOrderUptoRow.holds Try.pinned (OpenSpec.upto tnumOrderSpec)

/-- 'wardenlaw03.TnumSides', WHERE WHAT IT READS IS OF BULK AT MOST 1048576: true; the input reads as it did. -/
def tnumSidesUptoRow : OpenClaim := { program := "ytnljfoaacngamaa", sum := "5cecbea9dd0d275d6df5d39727d997a9f41e7fc469608c2242a04caff24d6e0b", func := "warden/wardenlaw03.TnumSides", spec := "tnumSides", apart := false, narrowed := true }
def TnumSidesUptoSaid : Prop := tnumSidesUptoRow.holds Try.pinned (OpenSpec.upto tnumSidesSpec)

/-- 'wardenlaw03.TnumSound', WHERE WHAT IT READS IS OF BULK AT MOST 1048576: true; the input reads as it did. -/
def tnumSoundUptoRow : OpenClaim := { program := "ytnljfoaacngamaa", sum := "5cecbea9dd0d275d6df5d39727d997a9f41e7fc469608c2242a04caff24d6e0b", func := "warden/wardenlaw03.TnumSound", spec := "tnumSound", apart := false, narrowed := true }
def TnumSoundUptoSaid : Prop := tnumSoundUptoRow.holds Try.pinned (OpenSpec.upto tnumSoundSpec)

end Rows
end Go.Proofs.Ytnljfoaacngamaa
