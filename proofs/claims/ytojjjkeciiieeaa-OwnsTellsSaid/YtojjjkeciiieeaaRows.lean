/-
  No cell of these rows narrows 'for every input' (looked for: loops, veiled, ifaces, maps, wideKeys, modest, calm, conditions, laid).
  DERIVED. THE GIVEN ROWS OF THIS SEAT. 5 by the template 'for every input the law returns true; each argument reads behind the call as it read before'; 0 by the template 'total and deterministic' (their statements: YtojjjkeciiieeaaTotals.lean).
  GIVEN WITH THE SEED: the statements are not yours to turn. If you find one false, say at which input.
  Laid BY PROGRAM, IN A SANDBOX (cutbox-rows.mjs): the forced cells as the released guide's own fill.sh prints them over the translation c70c157908faf64e… (all of the seat's roots in one cut). By AI agents, Wed Nov 11 2026. No macro, syntax, notation, axiom, sorry.
-/
import Derived.Test.YtojjjkeciiieeaaChecked
import GoSem.Claim
import GoSem.ClaimJoined
import GoSem.ClaimMapViews
import Derived.JoinedTies
import Derived.KernelRfl
namespace Go.Proofs.Ytojjjkeciiieeaa
/- THE CELL 'sum', in the pinned program and in every row, IS THE sha256 OF THE DUMP (.gsa) THAT YtojjjkeciiieeaaProg.lean LOADS. Nothing in Lean hashes anything: it is a label: what it is worth is what the hold of that sum in a sandbox is worth. -/
noncomputable def Try.pinned : Pinned := { name := "ytojjjkeciiieeaa", sum := "c70c157908faf64e143f04f74ebcfdff981ba7f2fbd77b2e67a4fb2578a01df9", checked := Try.checked }
namespace Rows
def none {H : Type} : Left H := { results := [], args := [] }

/-- 'wardenlaw11.OwnsTells': WHATEVER THE INPUT: true; the input reads as it did. -/
def ownsTellsSpec : ChangeSpec := { name := "ownsTells", fn := fun _ => fun
  | [d1, d2] => { results := [.lit (.bool true)], args := [d1, d2] }
  | _ => none }
def ownsTellsRow : OpenClaim := { program := "ytojjjkeciiieeaa", sum := "c70c157908faf64e143f04f74ebcfdff981ba7f2fbd77b2e67a4fb2578a01df9", func := "warden/wardenlaw11.OwnsTells", spec := "ownsTells", unfollowed := true, recurses := true, apart := false }
def OwnsTellsSaid : Prop := ownsTellsRow.holds Try.pinned (OpenSpec.ofChange ownsTellsSpec)

/-- ITS FALSE NEIGHBOUR: 'it returns false'. Refute it at one input. -/
def ownsTellsWrong : ChangeSpec := { name := "ownsTells", fn := fun _ => fun
  | [d1, d2] => { results := [.lit (.bool false)], args := [d1, d2] }
  | _ => none }
def OwnsTellsWrongFalsely : Prop := ownsTellsRow.holds Try.pinned (OpenSpec.ofChange ownsTellsWrong)

/-- 'wardenlaw11.OwnsSteps': WHATEVER THE INPUT: true; the input reads as it did. -/
def ownsStepsSpec : ChangeSpec := { name := "ownsSteps", fn := fun _ => fun
  | [d] => { results := [.lit (.bool true)], args := [d] }
  | _ => none }
def ownsStepsRow : OpenClaim := { program := "ytojjjkeciiieeaa", sum := "c70c157908faf64e143f04f74ebcfdff981ba7f2fbd77b2e67a4fb2578a01df9", func := "warden/wardenlaw11.OwnsSteps", spec := "ownsSteps", unfollowed := true, recurses := true, apart := false }
def OwnsStepsSaid : Prop := ownsStepsRow.holds Try.pinned (OpenSpec.ofChange ownsStepsSpec)

/-- ITS FALSE NEIGHBOUR: 'it returns false'. Refute it at one input. -/
def ownsStepsWrong : ChangeSpec := { name := "ownsSteps", fn := fun _ => fun
  | [d] => { results := [.lit (.bool false)], args := [d] }
  | _ => none }
def OwnsStepsWrongFalsely : Prop := ownsStepsRow.holds Try.pinned (OpenSpec.ofChange ownsStepsWrong)

/-- 'wardenlaw11.OwnsChains': WHATEVER THE INPUT: true; the input reads as it did. -/
def ownsChainsSpec : ChangeSpec := { name := "ownsChains", fn := fun _ => fun
  | [d1, d2, d3] => { results := [.lit (.bool true)], args := [d1, d2, d3] }
  | _ => none }
def ownsChainsRow : OpenClaim := { program := "ytojjjkeciiieeaa", sum := "c70c157908faf64e143f04f74ebcfdff981ba7f2fbd77b2e67a4fb2578a01df9", func := "warden/wardenlaw11.OwnsChains", spec := "ownsChains", unfollowed := true, recurses := true, apart := false }
def OwnsChainsSaid : Prop := ownsChainsRow.holds Try.pinned (OpenSpec.ofChange ownsChainsSpec)

/-- ITS FALSE NEIGHBOUR: 'it returns false'. Refute it at one input. -/
def ownsChainsWrong : ChangeSpec := { name := "ownsChains", fn := fun _ => fun
  | [d1, d2, d3] => { results := [.lit (.bool false)], args := [d1, d2, d3] }
  | _ => none }
def OwnsChainsWrongFalsely : Prop := ownsChainsRow.holds Try.pinned (OpenSpec.ofChange ownsChainsWrong)

/-- 'wardenlaw11.OwnsRound': WHATEVER THE INPUT: true; the input reads as it did. -/
def ownsRoundSpec : ChangeSpec := { name := "ownsRound", fn := fun _ => fun
  | [d1, d2, d3] => { results := [.lit (.bool true)], args := [d1, d2, d3] }
  | _ => none }
def ownsRoundRow : OpenClaim := { program := "ytojjjkeciiieeaa", sum := "c70c157908faf64e143f04f74ebcfdff981ba7f2fbd77b2e67a4fb2578a01df9", func := "warden/wardenlaw11.OwnsRound", spec := "ownsRound", unfollowed := true, recurses := true, apart := false }
def OwnsRoundSaid : Prop := ownsRoundRow.holds Try.pinned (OpenSpec.ofChange ownsRoundSpec)

/-- ITS FALSE NEIGHBOUR: 'it returns false'. Refute it at one input. -/
def ownsRoundWrong : ChangeSpec := { name := "ownsRound", fn := fun _ => fun
  | [d1, d2, d3] => { results := [.lit (.bool false)], args := [d1, d2, d3] }
  | _ => none }
def OwnsRoundWrongFalsely : Prop := ownsRoundRow.holds Try.pinned (OpenSpec.ofChange ownsRoundWrong)

/-- 'wardenlaw11.OwnsFewer': WHATEVER THE INPUT: true; the input reads as it did. -/
def ownsFewerSpec : ChangeSpec := { name := "ownsFewer", fn := fun _ => fun
  | [d1, d2, d3] => { results := [.lit (.bool true)], args := [d1, d2, d3] }
  | _ => none }
def ownsFewerRow : OpenClaim := { program := "ytojjjkeciiieeaa", sum := "c70c157908faf64e143f04f74ebcfdff981ba7f2fbd77b2e67a4fb2578a01df9", func := "warden/wardenlaw11.OwnsFewer", spec := "ownsFewer", unfollowed := true, recurses := true, apart := false }
def OwnsFewerSaid : Prop := ownsFewerRow.holds Try.pinned (OpenSpec.ofChange ownsFewerSpec)

/-- ITS FALSE NEIGHBOUR: 'it returns false'. Refute it at one input. -/
def ownsFewerWrong : ChangeSpec := { name := "ownsFewer", fn := fun _ => fun
  | [d1, d2, d3] => { results := [.lit (.bool false)], args := [d1, d2, d3] }
  | _ => none }
def OwnsFewerWrongFalsely : Prop := ownsFewerRow.holds Try.pinned (OpenSpec.ofChange ownsFewerWrong)

/- THE SECOND FORM. 'bulk': how many values and letters a reading holds, each counted each time it is reached (what is shared counts as often as it is met; a slice's spare places count too). A statement '..UptoSaid' is the law's where the arguments, and the package variables that the reading takes, are together of bulk at most 1048576: NARROWER than '..Said'. Prove '..Said' where nothing that the law and all that it calls make is longer than what came in: it says more and counts as full. Else prove '..UptoSaid'. A law counts once. -/
mutual
def uptoBulk {H : Type} : DataW H → Nat
  | .lit (.string bytes) => bytes.length + 1
  | .lit _ => 1
  | .nil => 1
  | .ptr d => uptoBulk d + 1
  | .slice elems spare => uptoBulkAll elems + uptoBulkAll spare + 1
  | .agg parts => uptoBulkAll parts + 1
  | .iface _ d => uptoBulk d + 1
  | .map entries => uptoBulkEntries entries + 1
  | .held _ => 1
def uptoBulkAll {H : Type} : List (DataW H) → Nat
  | [] => 0
  | d :: r => uptoBulk d + uptoBulkAll r
def uptoBulkEntries {H : Type} : List (Lit × DataW H) → Nat
  | [] => 0
  | x :: r => uptoBulkEntry x + uptoBulkEntries r
def uptoBulkEntry {H : Type} : Lit × DataW H → Nat
  | (.string bytes, d) => bytes.length + uptoBulk d + 1
  | (_, d) => uptoBulk d + 1
 end
def uptoSmall : (H : Type) → List (DataW H) → Bool := fun _ ds => decide (uptoBulkAll ds ≤ 1048576)
def OpenSpec.upto (s : _root_.Go.ChangeSpec) : _root_.Go.OpenSpec := { _root_.Go.OpenSpec.ofChange s with cond := some uptoSmall }

/-- 'wardenlaw11.OwnsTells', WHERE WHAT IT READS IS OF BULK AT MOST 1048576: true; the input reads as it did. -/
def ownsTellsUptoRow : OpenClaim := { program := "ytojjjkeciiieeaa", sum := "c70c157908faf64e143f04f74ebcfdff981ba7f2fbd77b2e67a4fb2578a01df9", func := "warden/wardenlaw11.OwnsTells", spec := "ownsTells", unfollowed := true, recurses := true, apart := false, narrowed := true }
def OwnsTellsUptoSaid : Prop := ownsTellsUptoRow.holds Try.pinned (OpenSpec.upto ownsTellsSpec)

/-- 'wardenlaw11.OwnsSteps', WHERE WHAT IT READS IS OF BULK AT MOST 1048576: true; the input reads as it did. -/
def ownsStepsUptoRow : OpenClaim := { program := "ytojjjkeciiieeaa", sum := "c70c157908faf64e143f04f74ebcfdff981ba7f2fbd77b2e67a4fb2578a01df9", func := "warden/wardenlaw11.OwnsSteps", spec := "ownsSteps", unfollowed := true, recurses := true, apart := false, narrowed := true }
def OwnsStepsUptoSaid : Prop := ownsStepsUptoRow.holds Try.pinned (OpenSpec.upto ownsStepsSpec)

/-- 'wardenlaw11.OwnsChains', WHERE WHAT IT READS IS OF BULK AT MOST 1048576: true; the input reads as it did. -/
def ownsChainsUptoRow : OpenClaim := { program := "ytojjjkeciiieeaa", sum := "c70c157908faf64e143f04f74ebcfdff981ba7f2fbd77b2e67a4fb2578a01df9", func := "warden/wardenlaw11.OwnsChains", spec := "ownsChains", unfollowed := true, recurses := true, apart := false, narrowed := true }
def OwnsChainsUptoSaid : Prop := ownsChainsUptoRow.holds Try.pinned (OpenSpec.upto ownsChainsSpec)

/-- 'wardenlaw11.OwnsRound', WHERE WHAT IT READS IS OF BULK AT MOST 1048576: true; the input reads as it did. -/
def ownsRoundUptoRow : OpenClaim := { program := "ytojjjkeciiieeaa", sum := "c70c157908faf64e143f04f74ebcfdff981ba7f2fbd77b2e67a4fb2578a01df9", func := "warden/wardenlaw11.OwnsRound", spec := "ownsRound", unfollowed := true, recurses := true, apart := false, narrowed := true }
def OwnsRoundUptoSaid : Prop := ownsRoundUptoRow.holds Try.pinned (OpenSpec.upto ownsRoundSpec)

/-- 'wardenlaw11.OwnsFewer', WHERE WHAT IT READS IS OF BULK AT MOST 1048576: true; the input reads as it did. -/
def ownsFewerUptoRow : OpenClaim := { program := "ytojjjkeciiieeaa", sum := "c70c157908faf64e143f04f74ebcfdff981ba7f2fbd77b2e67a4fb2578a01df9", func := "warden/wardenlaw11.OwnsFewer", spec := "ownsFewer", unfollowed := true, recurses := true, apart := false, narrowed := true }
def OwnsFewerUptoSaid : Prop := ownsFewerUptoRow.holds Try.pinned (OpenSpec.upto ownsFewerSpec)

end Rows
end Go.Proofs.Ytojjjkeciiieeaa
