/-
  No cell of these rows narrows 'for every input' (looked for: loops, veiled, ifaces, maps, wideKeys, modest, calm, conditions, laid).
  DERIVED. THE GIVEN ROWS OF THIS SEAT. 11 by the template 'for every input the law returns true; each argument reads behind the call as it read before'; 0 by the template 'total and deterministic' (their statements: YtibghcmkmbamjaaTotals.lean).
  GIVEN WITH THE SEED: the statements are not yours to turn. If you find one false, say at which input.
  Laid BY PROGRAM, IN A SANDBOX (cutbox-rows.mjs): the forced cells as the released guide's own fill.sh prints them over the translation fd911ae0ccacd104… (all of the seat's roots in one cut). By AI agents, Wed Nov 11 2026. No macro, syntax, notation, axiom, sorry.
-/
import Derived.Test.YtibghcmkmbamjaaChecked
import GoSem.Claim
import GoSem.ClaimJoined
import GoSem.ClaimMapViews
import Derived.JoinedTies
import Derived.KernelRfl
namespace Go.Proofs.Ytibghcmkmbamjaa
/- THE CELL 'sum', in the pinned program and in every row, IS THE sha256 OF THE DUMP (.gsa) THAT YtibghcmkmbamjaaProg.lean LOADS. Nothing in Lean hashes anything: it is a label: what it is worth is what the hold of that sum in a sandbox is worth. -/
noncomputable def Try.pinned : Pinned := { name := "ytibghcmkmbamjaa", sum := "fd911ae0ccacd1045092d6f1ef57e7eecce73f209f3746d0e4703abcc7956710", checked := Try.checked }
namespace Rows
def none {H : Type} : Left H := { results := [], args := [] }

/-- 'wardenlaw07.InsnTells': WHATEVER THE INPUT: true; the input reads as it did. -/
def insnTellsSpec : ChangeSpec := { name := "insnTells", fn := fun _ => fun
  | [d1, d2] => { results := [.lit (.bool true)], args := [d1, d2] }
  | _ => none }
def insnTellsRow : OpenClaim := { program := "ytibghcmkmbamjaa", sum := "fd911ae0ccacd1045092d6f1ef57e7eecce73f209f3746d0e4703abcc7956710", func := "warden/wardenlaw07.InsnTells", spec := "insnTells", unfollowed := true, recurses := true, apart := false }
def InsnTellsSaid : Prop := insnTellsRow.holds Try.pinned (OpenSpec.ofChange insnTellsSpec)

/-- ITS FALSE NEIGHBOUR: 'it returns false'. Refute it at one input. -/
def insnTellsWrong : ChangeSpec := { name := "insnTells", fn := fun _ => fun
  | [d1, d2] => { results := [.lit (.bool false)], args := [d1, d2] }
  | _ => none }
def InsnTellsWrongFalsely : Prop := insnTellsRow.holds Try.pinned (OpenSpec.ofChange insnTellsWrong)

/-- 'wardenlaw07.InsnTouches': WHATEVER THE INPUT: true; the input reads as it did. -/
def insnTouchesSpec : ChangeSpec := { name := "insnTouches", fn := fun _ => fun
  | [d] => { results := [.lit (.bool true)], args := [d] }
  | _ => none }
def insnTouchesRow : OpenClaim := { program := "ytibghcmkmbamjaa", sum := "fd911ae0ccacd1045092d6f1ef57e7eecce73f209f3746d0e4703abcc7956710", func := "warden/wardenlaw07.InsnTouches", spec := "insnTouches", unfollowed := true, recurses := true, apart := false }
def InsnTouchesSaid : Prop := insnTouchesRow.holds Try.pinned (OpenSpec.ofChange insnTouchesSpec)

/-- ITS FALSE NEIGHBOUR: 'it returns false'. Refute it at one input. -/
def insnTouchesWrong : ChangeSpec := { name := "insnTouches", fn := fun _ => fun
  | [d] => { results := [.lit (.bool false)], args := [d] }
  | _ => none }
def InsnTouchesWrongFalsely : Prop := insnTouchesRow.holds Try.pinned (OpenSpec.ofChange insnTouchesWrong)

/-- 'wardenlaw07.InsnBack': WHATEVER THE INPUT: true; the input reads as it did. -/
def insnBackSpec : ChangeSpec := { name := "insnBack", fn := fun _ => fun
  | [d1, d2, d3] => { results := [.lit (.bool true)], args := [d1, d2, d3] }
  | _ => none }
def insnBackRow : OpenClaim := { program := "ytibghcmkmbamjaa", sum := "fd911ae0ccacd1045092d6f1ef57e7eecce73f209f3746d0e4703abcc7956710", func := "warden/wardenlaw07.InsnBack", spec := "insnBack", unfollowed := true, recurses := true, apart := false }
def InsnBackSaid : Prop := insnBackRow.holds Try.pinned (OpenSpec.ofChange insnBackSpec)

/-- ITS FALSE NEIGHBOUR: 'it returns false'. Refute it at one input. -/
def insnBackWrong : ChangeSpec := { name := "insnBack", fn := fun _ => fun
  | [d1, d2, d3] => { results := [.lit (.bool false)], args := [d1, d2, d3] }
  | _ => none }
def InsnBackWrongFalsely : Prop := insnBackRow.holds Try.pinned (OpenSpec.ofChange insnBackWrong)

/-- 'wardenlaw07.InsnSound': WHATEVER THE INPUT: true; the input reads as it did. -/
def insnSoundSpec : ChangeSpec := { name := "insnSound", fn := fun _ => fun
  | [d] => { results := [.lit (.bool true)], args := [d] }
  | _ => none }
def insnSoundRow : OpenClaim := { program := "ytibghcmkmbamjaa", sum := "fd911ae0ccacd1045092d6f1ef57e7eecce73f209f3746d0e4703abcc7956710", func := "warden/wardenlaw07.InsnSound", spec := "insnSound", unfollowed := true, recurses := true, apart := false }
def InsnSoundSaid : Prop := insnSoundRow.holds Try.pinned (OpenSpec.ofChange insnSoundSpec)

/-- ITS FALSE NEIGHBOUR: 'it returns false'. Refute it at one input. -/
def insnSoundWrong : ChangeSpec := { name := "insnSound", fn := fun _ => fun
  | [d] => { results := [.lit (.bool false)], args := [d] }
  | _ => none }
def InsnSoundWrongFalsely : Prop := insnSoundRow.holds Try.pinned (OpenSpec.ofChange insnSoundWrong)

/-- 'wardenlaw07.InsnStrict': WHATEVER THE INPUT: true; the input reads as it did. -/
def insnStrictSpec : ChangeSpec := { name := "insnStrict", fn := fun _ => fun
  | [d1, d2, d3, d4] => { results := [.lit (.bool true)], args := [d1, d2, d3, d4] }
  | _ => none }
def insnStrictRow : OpenClaim := { program := "ytibghcmkmbamjaa", sum := "fd911ae0ccacd1045092d6f1ef57e7eecce73f209f3746d0e4703abcc7956710", func := "warden/wardenlaw07.InsnStrict", spec := "insnStrict", unfollowed := true, recurses := true, apart := false }
def InsnStrictSaid : Prop := insnStrictRow.holds Try.pinned (OpenSpec.ofChange insnStrictSpec)

/-- ITS FALSE NEIGHBOUR: 'it returns false'. Refute it at one input. -/
def insnStrictWrong : ChangeSpec := { name := "insnStrict", fn := fun _ => fun
  | [d1, d2, d3, d4] => { results := [.lit (.bool false)], args := [d1, d2, d3, d4] }
  | _ => none }
def InsnStrictWrongFalsely : Prop := insnStrictRow.holds Try.pinned (OpenSpec.ofChange insnStrictWrong)

/-- 'wardenlaw08.CodeChecks': WHATEVER THE INPUT: true; the input reads as it did. -/
def codeChecksSpec : ChangeSpec := { name := "codeChecks", fn := fun _ => fun
  | [d] => { results := [.lit (.bool true)], args := [d] }
  | _ => none }
def codeChecksRow : OpenClaim := { program := "ytibghcmkmbamjaa", sum := "fd911ae0ccacd1045092d6f1ef57e7eecce73f209f3746d0e4703abcc7956710", func := "warden/wardenlaw08.CodeChecks", spec := "codeChecks", inPlace := ["internal/abi.NoEscape"], unfollowed := true, recurses := true, apart := false }
def CodeChecksSaid : Prop := codeChecksRow.holds Try.pinned (OpenSpec.ofChange codeChecksSpec)

/-- ITS FALSE NEIGHBOUR: 'it returns false'. Refute it at one input. -/
def codeChecksWrong : ChangeSpec := { name := "codeChecks", fn := fun _ => fun
  | [d] => { results := [.lit (.bool false)], args := [d] }
  | _ => none }
def CodeChecksWrongFalsely : Prop := codeChecksRow.holds Try.pinned (OpenSpec.ofChange codeChecksWrong)

/-- 'wardenlaw08.CodeStays': WHATEVER THE INPUT: true; the input reads as it did. -/
def codeStaysSpec : ChangeSpec := { name := "codeStays", fn := fun _ => fun
  | [d1, d2, d3] => { results := [.lit (.bool true)], args := [d1, d2, d3] }
  | _ => none }
def codeStaysRow : OpenClaim := { program := "ytibghcmkmbamjaa", sum := "fd911ae0ccacd1045092d6f1ef57e7eecce73f209f3746d0e4703abcc7956710", func := "warden/wardenlaw08.CodeStays", spec := "codeStays", inPlace := ["internal/abi.NoEscape"], unfollowed := true, recurses := true, apart := false }
def CodeStaysSaid : Prop := codeStaysRow.holds Try.pinned (OpenSpec.ofChange codeStaysSpec)

/-- ITS FALSE NEIGHBOUR: 'it returns false'. Refute it at one input. -/
def codeStaysWrong : ChangeSpec := { name := "codeStays", fn := fun _ => fun
  | [d1, d2, d3] => { results := [.lit (.bool false)], args := [d1, d2, d3] }
  | _ => none }
def CodeStaysWrongFalsely : Prop := codeStaysRow.holds Try.pinned (OpenSpec.ofChange codeStaysWrong)

/-- 'wardenlaw08.CodeCovers': WHATEVER THE INPUT: true; the input reads as it did. -/
def codeCoversSpec : ChangeSpec := { name := "codeCovers", fn := fun _ => fun
  | [d] => { results := [.lit (.bool true)], args := [d] }
  | _ => none }
def codeCoversRow : OpenClaim := { program := "ytibghcmkmbamjaa", sum := "fd911ae0ccacd1045092d6f1ef57e7eecce73f209f3746d0e4703abcc7956710", func := "warden/wardenlaw08.CodeCovers", spec := "codeCovers", inPlace := ["internal/abi.NoEscape"], unfollowed := true, recurses := true, apart := false }
def CodeCoversSaid : Prop := codeCoversRow.holds Try.pinned (OpenSpec.ofChange codeCoversSpec)

/-- ITS FALSE NEIGHBOUR: 'it returns false'. Refute it at one input. -/
def codeCoversWrong : ChangeSpec := { name := "codeCovers", fn := fun _ => fun
  | [d] => { results := [.lit (.bool false)], args := [d] }
  | _ => none }
def CodeCoversWrongFalsely : Prop := codeCoversRow.holds Try.pinned (OpenSpec.ofChange codeCoversWrong)

/-- 'wardenlaw08.CodeBack': WHATEVER THE INPUT: true; the input reads as it did. -/
def codeBackSpec : ChangeSpec := { name := "codeBack", fn := fun _ => fun
  | [d1, d2, d3] => { results := [.lit (.bool true)], args := [d1, d2, d3] }
  | _ => none }
def codeBackRow : OpenClaim := { program := "ytibghcmkmbamjaa", sum := "fd911ae0ccacd1045092d6f1ef57e7eecce73f209f3746d0e4703abcc7956710", func := "warden/wardenlaw08.CodeBack", spec := "codeBack", inPlace := ["internal/abi.NoEscape"], unfollowed := true, recurses := true, apart := false }
def CodeBackSaid : Prop := codeBackRow.holds Try.pinned (OpenSpec.ofChange codeBackSpec)

/-- ITS FALSE NEIGHBOUR: 'it returns false'. Refute it at one input. -/
def codeBackWrong : ChangeSpec := { name := "codeBack", fn := fun _ => fun
  | [d1, d2, d3] => { results := [.lit (.bool false)], args := [d1, d2, d3] }
  | _ => none }
def CodeBackWrongFalsely : Prop := codeBackRow.holds Try.pinned (OpenSpec.ofChange codeBackWrong)

/-- 'wardenlaw08.CodeLong': WHATEVER THE INPUT: true; the input reads as it did. -/
def codeLongSpec : ChangeSpec := { name := "codeLong", fn := fun _ => fun
  | [d] => { results := [.lit (.bool true)], args := [d] }
  | _ => none }
def codeLongRow : OpenClaim := { program := "ytibghcmkmbamjaa", sum := "fd911ae0ccacd1045092d6f1ef57e7eecce73f209f3746d0e4703abcc7956710", func := "warden/wardenlaw08.CodeLong", spec := "codeLong", inPlace := ["internal/abi.NoEscape"], unfollowed := true, recurses := true, apart := false }
def CodeLongSaid : Prop := codeLongRow.holds Try.pinned (OpenSpec.ofChange codeLongSpec)

/-- ITS FALSE NEIGHBOUR: 'it returns false'. Refute it at one input. -/
def codeLongWrong : ChangeSpec := { name := "codeLong", fn := fun _ => fun
  | [d] => { results := [.lit (.bool false)], args := [d] }
  | _ => none }
def CodeLongWrongFalsely : Prop := codeLongRow.holds Try.pinned (OpenSpec.ofChange codeLongWrong)

/-- 'wardenlaw08.CodeMoves': WHATEVER THE INPUT: true; the input reads as it did. -/
def codeMovesSpec : ChangeSpec := { name := "codeMoves", fn := fun _ => fun
  | [d1, d2] => { results := [.lit (.bool true)], args := [d1, d2] }
  | _ => none }
def codeMovesRow : OpenClaim := { program := "ytibghcmkmbamjaa", sum := "fd911ae0ccacd1045092d6f1ef57e7eecce73f209f3746d0e4703abcc7956710", func := "warden/wardenlaw08.CodeMoves", spec := "codeMoves", inPlace := ["internal/abi.NoEscape"], unfollowed := true, recurses := true, apart := false }
def CodeMovesSaid : Prop := codeMovesRow.holds Try.pinned (OpenSpec.ofChange codeMovesSpec)

/-- ITS FALSE NEIGHBOUR: 'it returns false'. Refute it at one input. -/
def codeMovesWrong : ChangeSpec := { name := "codeMoves", fn := fun _ => fun
  | [d1, d2] => { results := [.lit (.bool false)], args := [d1, d2] }
  | _ => none }
def CodeMovesWrongFalsely : Prop := codeMovesRow.holds Try.pinned (OpenSpec.ofChange codeMovesWrong)

/- THE SECOND FORM. 'bulk': how many values and letters a reading holds, each counted each time it is reached (what is shared counts as often as it is met; a slice's spare places count too). A statement '..UptoSaid' is the law's where the arguments, and the package variables that the reading takes, are together of bulk at most 1048576: NARROWER than '..Said'. Prove '..Said' where nothing that the law and all that it calls make is longer than what came in: it says more and counts as full. Else prove '..UptoSaid'. A law counts once. -/
mutual
def uptoBulk {H : Type} : DataW H → Nat
  | .lit (.string bytes) => bytes.length + 1
  | .lit _ => 1
  | .nil => 1
  | .ptr d => uptoBulk d + 1
  | .slice elems spare => uptoBulkAll elems + uptoBulkAll spare + 1
  | .agg parts => uptoBulkAll parts + 1
  | .iface _ d => uptoBulk d + 1
  | .map entries => uptoBulkEntries entries + 1
  | .held _ => 1
def uptoBulkAll {H : Type} : List (DataW H) → Nat
  | [] => 0
  | d :: r => uptoBulk d + uptoBulkAll r
def uptoBulkEntries {H : Type} : List (Lit × DataW H) → Nat
  | [] => 0
  | x :: r => uptoBulkEntry x + uptoBulkEntries r
def uptoBulkEntry {H : Type} : Lit × DataW H → Nat
  | (.string bytes, d) => bytes.length + uptoBulk d + 1
  | (_, d) => uptoBulk d + 1
 end
def uptoSmall : (H : Type) → List (DataW H) → Bool := fun _ ds => decide (uptoBulkAll ds ≤ 1048576)
def OpenSpec.upto (s : _root_.Go.ChangeSpec) : _root_.Go.OpenSpec := { _root_.Go.OpenSpec.ofChange s with cond := some uptoSmall }

/-- 'wardenlaw07.InsnTells', WHERE WHAT IT READS IS OF BULK AT MOST 1048576: true; the input reads as it did. -/
def insnTellsUptoRow : OpenClaim := { program := "ytibghcmkmbamjaa", sum := "fd911ae0ccacd1045092d6f1ef57e7eecce73f209f3746d0e4703abcc7956710", func := "warden/wardenlaw07.InsnTells", spec := "insnTells", unfollowed := true, recurses := true, apart := false, narrowed := true }
def InsnTellsUptoSaid : Prop := insnTellsUptoRow.holds Try.pinned (OpenSpec.upto insnTellsSpec)

/-- 'wardenlaw07.InsnTouches', WHERE WHAT IT READS IS OF BULK AT MOST 1048576: true; the input reads as it did. -/
def insnTouchesUptoRow : OpenClaim := { program := "ytibghcmkmbamjaa", sum := "fd911ae0ccacd1045092d6f1ef57e7eecce73f209f3746d0e4703abcc7956710", func := "warden/wardenlaw07.InsnTouches", spec := "insnTouches", unfollowed := true, recurses := true, apart := false, narrowed := true }
def InsnTouchesUptoSaid : Prop := insnTouchesUptoRow.holds Try.pinned (OpenSpec.upto insnTouchesSpec)

/-- 'wardenlaw07.InsnBack', WHERE WHAT IT READS IS OF BULK AT MOST 1048576: true; the input reads as it did. -/
def insnBackUptoRow : OpenClaim := { program := "ytibghcmkmbamjaa", sum := "fd911ae0ccacd1045092d6f1ef57e7eecce73f209f3746d0e4703abcc7956710", func := "warden/wardenlaw07.InsnBack", spec := "insnBack", unfollowed := true, recurses := true, apart := false, narrowed := true }
def InsnBackUptoSaid : Prop := insnBackUptoRow.holds Try.pinned (OpenSpec.upto insnBackSpec)

/-- 'wardenlaw07.InsnSound', WHERE WHAT IT READS IS OF BULK AT MOST 1048576: true; the input reads as it did. -/
def insnSoundUptoRow : OpenClaim := { program := "ytibghcmkmbamjaa", sum := "fd911ae0ccacd1045092d6f1ef57e7eecce73f209f3746d0e4703abcc7956710", func := "warden/wardenlaw07.InsnSound", spec := "insnSound", unfollowed := true, recurses := true, apart := false, narrowed := true }
def InsnSoundUptoSaid : Prop := insnSoundUptoRow.holds Try.pinned (OpenSpec.upto insnSoundSpec)

/-- 'wardenlaw07.InsnStrict', WHERE WHAT IT READS IS OF BULK AT MOST 1048576: true; the input reads as it did. -/
def insnStrictUptoRow : OpenClaim := { program := "ytibghcmkmbamjaa", sum := "fd911ae0ccacd1045092d6f1ef57e7eecce73f209f3746d0e4703abcc7956710", func := "warden/wardenlaw07.InsnStrict", spec := "insnStrict", unfollowed := true, recurses := true, apart := false, narrowed := true }
def InsnStrictUptoSaid : Prop := insnStrictUptoRow.holds Try.pinned (OpenSpec.upto insnStrictSpec)

/-- 'wardenlaw08.CodeChecks', WHERE WHAT IT READS IS OF BULK AT MOST 1048576: true; the input reads as it did. -/
def codeChecksUptoRow : OpenClaim := { program := "ytibghcmkmbamjaa", sum := "fd911ae0ccacd1045092d6f1ef57e7eecce73f209f3746d0e4703abcc7956710", func := "warden/wardenlaw08.CodeChecks", spec := "codeChecks", inPlace := ["internal/abi.NoEscape"], unfollowed := true, recurses := true, apart := false, narrowed := true }
def CodeChecksUptoSaid : Prop := codeChecksUptoRow.holds Try.pinned (OpenSpec.upto codeChecksSpec)

/-- 'wardenlaw08.CodeStays', WHERE WHAT IT READS IS OF BULK AT MOST 1048576: true; the input reads as it did. -/
def codeStaysUptoRow : OpenClaim := { program := "ytibghcmkmbamjaa", sum := "fd911ae0ccacd1045092d6f1ef57e7eecce73f209f3746d0e4703abcc7956710", func := "warden/wardenlaw08.CodeStays", spec := "codeStays", inPlace := ["internal/abi.NoEscape"], unfollowed := true, recurses := true, apart := false, narrowed := true }
def CodeStaysUptoSaid : Prop := codeStaysUptoRow.holds Try.pinned (OpenSpec.upto codeStaysSpec)

/-- 'wardenlaw08.CodeCovers', WHERE WHAT IT READS IS OF BULK AT MOST 1048576: true; the input reads as it did. -/
def codeCoversUptoRow : OpenClaim := { program := "ytibghcmkmbamjaa", sum := "fd911ae0ccacd1045092d6f1ef57e7eecce73f209f3746d0e4703abcc7956710", func := "warden/wardenlaw08.CodeCovers", spec := "codeCovers", inPlace := ["internal/abi.NoEscape"], unfollowed := true, recurses := true, apart := false, narrowed := true }
def CodeCoversUptoSaid : Prop := codeCoversUptoRow.holds Try.pinned (OpenSpec.upto codeCoversSpec)

/-- 'wardenlaw08.CodeBack', WHERE WHAT IT READS IS OF BULK AT MOST 1048576: true; the input reads as it did. -/
def codeBackUptoRow : OpenClaim := { program := "ytibghcmkmbamjaa", sum := "fd911ae0ccacd1045092d6f1ef57e7eecce73f209f3746d0e4703abcc7956710", func := "warden/wardenlaw08.CodeBack", spec := "codeBack", inPlace := ["internal/abi.NoEscape"], unfollowed := true, recurses := true, apart := false, narrowed := true }
def CodeBackUptoSaid : Prop := codeBackUptoRow.holds Try.pinned (OpenSpec.upto codeBackSpec)

/-- 'wardenlaw08.CodeLong', WHERE WHAT IT READS IS OF BULK AT MOST 1048576: true; the input reads as it did. -/
def codeLongUptoRow : OpenClaim := { program := "ytibghcmkmbamjaa", sum := "fd911ae0ccacd1045092d6f1ef57e7eecce73f209f3746d0e4703abcc7956710", func := "warden/wardenlaw08.CodeLong", spec := "codeLong", inPlace := ["internal/abi.NoEscape"], unfollowed := true, recurses := true, apart := false, narrowed := true }
def CodeLongUptoSaid : Prop := codeLongUptoRow.holds Try.pinned (OpenSpec.upto codeLongSpec)

/-- 'wardenlaw08.CodeMoves', WHERE WHAT IT READS IS OF BULK AT MOST 1048576: true; the input reads as it did. -/
def codeMovesUptoRow : OpenClaim := { program := "ytibghcmkmbamjaa", sum := "fd911ae0ccacd1045092d6f1ef57e7eecce73f209f3746d0e4703abcc7956710", func := "warden/wardenlaw08.CodeMoves", spec := "codeMoves", inPlace := ["internal/abi.NoEscape"], unfollowed := true, recurses := true, apart := false, narrowed := true }
def CodeMovesUptoSaid : Prop := codeMovesUptoRow.holds Try.pinned (OpenSpec.upto codeMovesSpec)

end Rows
end Go.Proofs.Ytibghcmkmbamjaa
