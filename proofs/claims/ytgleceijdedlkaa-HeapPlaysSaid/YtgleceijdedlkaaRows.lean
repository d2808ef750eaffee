/-
  No cell of these rows narrows 'for every input' (looked for: loops, veiled, ifaces, maps, wideKeys, modest, calm, conditions, laid).
  DERIVED. THE GIVEN ROWS OF THIS SEAT. 14 by the template 'for every input the law returns true; each argument reads behind the call as it read before'; 0 by the template 'total and deterministic' (their statements: YtgleceijdedlkaaTotals.lean).
  GIVEN WITH THE SEED: the statements are not yours to turn. If you find one false, say at which input.
  Laid BY PROGRAM, IN A SANDBOX (cutbox-rows.mjs): the forced cells as the released guide's own fill.sh prints them over the translation 710ecbc464b58b99… (all of the seat's roots in one cut). By AI agents, Wed Nov 11 2026. No macro, syntax, notation, axiom, sorry.
-/
import Derived.Test.YtgleceijdedlkaaChecked
import GoSem.Claim
import GoSem.ClaimJoined
import GoSem.ClaimMapViews
import Derived.JoinedTies
import Derived.KernelRfl
namespace Go.Proofs.Ytgleceijdedlkaa
/- THE CELL 'sum', in the pinned program and in every row, IS THE sha256 OF THE DUMP (.gsa) THAT YtgleceijdedlkaaProg.lean LOADS. Nothing in Lean hashes anything: it is a label: what it is worth is what the hold of that sum in a sandbox is worth. -/
noncomputable def Try.pinned : Pinned := { name := "ytgleceijdedlkaa", sum := "710ecbc464b58b993ccd6382afeda46590296bb6d1811be061e7d2fe4bc10f67", checked := Try.checked }
namespace Rows
def none {H : Type} : Left H := { results := [], args := [] }

/-- 'wardenlaw13.HandleApart': WHATEVER THE INPUT: true; the input reads as it did. -/
def handleApartSpec : ChangeSpec := { name := "handleApart", fn := fun _ => fun
  | [d1, d2, d3] => { results := [.lit (.bool true)], args := [d1, d2, d3] }
  | _ => none }
def handleApartRow : OpenClaim := { program := "ytgleceijdedlkaa", sum := "710ecbc464b58b993ccd6382afeda46590296bb6d1811be061e7d2fe4bc10f67", func := "warden/wardenlaw13.HandleApart", spec := "handleApart", plainKeys := false, apart := false }
def HandleApartSaid : Prop := handleApartRow.holds Try.pinned (OpenSpec.ofChange handleApartSpec)

/-- ITS FALSE NEIGHBOUR: 'it returns false'. Refute it at one input. -/
def handleApartWrong : ChangeSpec := { name := "handleApart", fn := fun _ => fun
  | [d1, d2, d3] => { results := [.lit (.bool false)], args := [d1, d2, d3] }
  | _ => none }
def HandleApartWrongFalsely : Prop := handleApartRow.holds Try.pinned (OpenSpec.ofChange handleApartWrong)

/-- 'wardenlaw12.SlabApart': WHATEVER THE INPUT: true; the input reads as it did. -/
def slabApartSpec : ChangeSpec := { name := "slabApart", fn := fun _ => fun
  | [d1, d2, d3, d4] => { results := [.lit (.bool true)], args := [d1, d2, d3, d4] }
  | _ => none }
def slabApartRow : OpenClaim := { program := "ytgleceijdedlkaa", sum := "710ecbc464b58b993ccd6382afeda46590296bb6d1811be061e7d2fe4bc10f67", func := "warden/wardenlaw12.SlabApart", spec := "slabApart", plainKeys := false, apart := false }
def SlabApartSaid : Prop := slabApartRow.holds Try.pinned (OpenSpec.ofChange slabApartSpec)

/-- ITS FALSE NEIGHBOUR: 'it returns false'. Refute it at one input. -/
def slabApartWrong : ChangeSpec := { name := "slabApart", fn := fun _ => fun
  | [d1, d2, d3, d4] => { results := [.lit (.bool false)], args := [d1, d2, d3, d4] }
  | _ => none }
def SlabApartWrongFalsely : Prop := slabApartRow.holds Try.pinned (OpenSpec.ofChange slabApartWrong)

/-- 'wardenlaw14.HeapCounts': WHATEVER THE INPUT: true; the input reads as it did. -/
def heapCountsSpec : ChangeSpec := { name := "heapCounts", fn := fun _ => fun
  | [d1, d2] => { results := [.lit (.bool true)], args := [d1, d2] }
  | _ => none }
def heapCountsRow : OpenClaim := { program := "ytgleceijdedlkaa", sum := "710ecbc464b58b993ccd6382afeda46590296bb6d1811be061e7d2fe4bc10f67", func := "warden/wardenlaw14.HeapCounts", spec := "heapCounts", plainKeys := false, apart := false }
def HeapCountsSaid : Prop := heapCountsRow.holds Try.pinned (OpenSpec.ofChange heapCountsSpec)

/-- ITS FALSE NEIGHBOUR: 'it returns false'. Refute it at one input. -/
def heapCountsWrong : ChangeSpec := { name := "heapCounts", fn := fun _ => fun
  | [d1, d2] => { results := [.lit (.bool false)], args := [d1, d2] }
  | _ => none }
def HeapCountsWrongFalsely : Prop := heapCountsRow.holds Try.pinned (OpenSpec.ofChange heapCountsWrong)

/-- 'wardenlaw14.HeapBytes': WHATEVER THE INPUT: true; the input reads as it did. -/
def heapBytesSpec : ChangeSpec := { name := "heapBytes", fn := fun _ => fun
  | [d1, d2, d3, d4, d5] => { results := [.lit (.bool true)], args := [d1, d2, d3, d4, d5] }
  | _ => none }
def heapBytesRow : OpenClaim := { program := "ytgleceijdedlkaa", sum := "710ecbc464b58b993ccd6382afeda46590296bb6d1811be061e7d2fe4bc10f67", func := "warden/wardenlaw14.HeapBytes", spec := "heapBytes", plainKeys := false, apart := false }
def HeapBytesSaid : Prop := heapBytesRow.holds Try.pinned (OpenSpec.ofChange heapBytesSpec)

/-- ITS FALSE NEIGHBOUR: 'it returns false'. Refute it at one input. -/
def heapBytesWrong : ChangeSpec := { name := "heapBytes", fn := fun _ => fun
  | [d1, d2, d3, d4, d5] => { results := [.lit (.bool false)], args := [d1, d2, d3, d4, d5] }
  | _ => none }
def HeapBytesWrongFalsely : Prop := heapBytesRow.holds Try.pinned (OpenSpec.ofChange heapBytesWrong)

/-- 'wardenlaw14.HeapApart': WHATEVER THE INPUT: true; the input reads as it did. -/
def heapApartSpec : ChangeSpec := { name := "heapApart", fn := fun _ => fun
  | [d1, d2] => { results := [.lit (.bool true)], args := [d1, d2] }
  | _ => none }
def heapApartRow : OpenClaim := { program := "ytgleceijdedlkaa", sum := "710ecbc464b58b993ccd6382afeda46590296bb6d1811be061e7d2fe4bc10f67", func := "warden/wardenlaw14.HeapApart", spec := "heapApart", plainKeys := false, apart := false }
def HeapApartSaid : Prop := heapApartRow.holds Try.pinned (OpenSpec.ofChange heapApartSpec)

/-- ITS FALSE NEIGHBOUR: 'it returns false'. Refute it at one input. -/
def heapApartWrong : ChangeSpec := { name := "heapApart", fn := fun _ => fun
  | [d1, d2] => { results := [.lit (.bool false)], args := [d1, d2] }
  | _ => none }
def HeapApartWrongFalsely : Prop := heapApartRow.holds Try.pinned (OpenSpec.ofChange heapApartWrong)

/-- 'wardenlaw13.HandlePlays': WHATEVER THE INPUT: true; the input reads as it did. -/
def handlePlaysSpec : ChangeSpec := { name := "handlePlays", fn := fun _ => fun
  | [d] => { results := [.lit (.bool true)], args := [d] }
  | _ => none }
def handlePlaysRow : OpenClaim := { program := "ytgleceijdedlkaa", sum := "710ecbc464b58b993ccd6382afeda46590296bb6d1811be061e7d2fe4bc10f67", func := "warden/wardenlaw13.HandlePlays", spec := "handlePlays", unfollowed := true, recurses := true, plainKeys := false, apart := false }
def HandlePlaysSaid : Prop := handlePlaysRow.holds Try.pinned (OpenSpec.ofChange handlePlaysSpec)

/-- ITS FALSE NEIGHBOUR: 'it returns false'. Refute it at one input. -/
def handlePlaysWrong : ChangeSpec := { name := "handlePlays", fn := fun _ => fun
  | [d] => { results := [.lit (.bool false)], args := [d] }
  | _ => none }
def HandlePlaysWrongFalsely : Prop := handlePlaysRow.holds Try.pinned (OpenSpec.ofChange handlePlaysWrong)

/-- 'wardenlaw13.HandleOnce': WHATEVER THE INPUT: true; the input reads as it did. -/
def handleOnceSpec : ChangeSpec := { name := "handleOnce", fn := fun _ => fun
  | [d1, d2] => { results := [.lit (.bool true)], args := [d1, d2] }
  | _ => none }
def handleOnceRow : OpenClaim := { program := "ytgleceijdedlkaa", sum := "710ecbc464b58b993ccd6382afeda46590296bb6d1811be061e7d2fe4bc10f67", func := "warden/wardenlaw13.HandleOnce", spec := "handleOnce", unfollowed := true, recurses := true, plainKeys := false, apart := false }
def HandleOnceSaid : Prop := handleOnceRow.holds Try.pinned (OpenSpec.ofChange handleOnceSpec)

/-- ITS FALSE NEIGHBOUR: 'it returns false'. Refute it at one input. -/
def handleOnceWrong : ChangeSpec := { name := "handleOnce", fn := fun _ => fun
  | [d1, d2] => { results := [.lit (.bool false)], args := [d1, d2] }
  | _ => none }
def HandleOnceWrongFalsely : Prop := handleOnceRow.holds Try.pinned (OpenSpec.ofChange handleOnceWrong)

/-- 'wardenlaw13.HandleNone': WHATEVER THE INPUT: true; the input reads as it did. -/
def handleNoneSpec : ChangeSpec := { name := "handleNone", fn := fun _ => fun
  | [d] => { results := [.lit (.bool true)], args := [d] }
  | _ => none }
def handleNoneRow : OpenClaim := { program := "ytgleceijdedlkaa", sum := "710ecbc464b58b993ccd6382afeda46590296bb6d1811be061e7d2fe4bc10f67", func := "warden/wardenlaw13.HandleNone", spec := "handleNone", unfollowed := true, recurses := true, plainKeys := false, apart := false }
def HandleNoneSaid : Prop := handleNoneRow.holds Try.pinned (OpenSpec.ofChange handleNoneSpec)

/-- ITS FALSE NEIGHBOUR: 'it returns false'. Refute it at one input. -/
def handleNoneWrong : ChangeSpec := { name := "handleNone", fn := fun _ => fun
  | [d] => { results := [.lit (.bool false)], args := [d] }
  | _ => none }
def HandleNoneWrongFalsely : Prop := handleNoneRow.holds Try.pinned (OpenSpec.ofChange handleNoneWrong)

/-- 'wardenlaw12.SlabRoom': WHATEVER THE INPUT: true; the input reads as it did. -/
def slabRoomSpec : ChangeSpec := { name := "slabRoom", fn := fun _ => fun
  | [d1, d2, d3] => { results := [.lit (.bool true)], args := [d1, d2, d3] }
  | _ => none }
def slabRoomRow : OpenClaim := { program := "ytgleceijdedlkaa", sum := "710ecbc464b58b993ccd6382afeda46590296bb6d1811be061e7d2fe4bc10f67", func := "warden/wardenlaw12.SlabRoom", spec := "slabRoom", unfollowed := true, recurses := true, plainKeys := false, apart := false }
def SlabRoomSaid : Prop := slabRoomRow.holds Try.pinned (OpenSpec.ofChange slabRoomSpec)

/-- ITS FALSE NEIGHBOUR: 'it returns false'. Refute it at one input. -/
def slabRoomWrong : ChangeSpec := { name := "slabRoom", fn := fun _ => fun
  | [d1, d2, d3] => { results := [.lit (.bool false)], args := [d1, d2, d3] }
  | _ => none }
def SlabRoomWrongFalsely : Prop := slabRoomRow.holds Try.pinned (OpenSpec.ofChange slabRoomWrong)

/-- 'wardenlaw12.SlabReuse': WHATEVER THE INPUT: true; the input reads as it did. -/
def slabReuseSpec : ChangeSpec := { name := "slabReuse", fn := fun _ => fun
  | [d1, d2] => { results := [.lit (.bool true)], args := [d1, d2] }
  | _ => none }
def slabReuseRow : OpenClaim := { program := "ytgleceijdedlkaa", sum := "710ecbc464b58b993ccd6382afeda46590296bb6d1811be061e7d2fe4bc10f67", func := "warden/wardenlaw12.SlabReuse", spec := "slabReuse", unfollowed := true, recurses := true, plainKeys := false, apart := false }
def SlabReuseSaid : Prop := slabReuseRow.holds Try.pinned (OpenSpec.ofChange slabReuseSpec)

/-- ITS FALSE NEIGHBOUR: 'it returns false'. Refute it at one input. -/
def slabReuseWrong : ChangeSpec := { name := "slabReuse", fn := fun _ => fun
  | [d1, d2] => { results := [.lit (.bool false)], args := [d1, d2] }
  | _ => none }
def SlabReuseWrongFalsely : Prop := slabReuseRow.holds Try.pinned (OpenSpec.ofChange slabReuseWrong)

/-- 'wardenlaw12.SlabPlays': WHATEVER THE INPUT: true; the input reads as it did. -/
def slabPlaysSpec : ChangeSpec := { name := "slabPlays", fn := fun _ => fun
  | [d1, d2] => { results := [.lit (.bool true)], args := [d1, d2] }
  | _ => none }
def slabPlaysRow : OpenClaim := { program := "ytgleceijdedlkaa", sum := "710ecbc464b58b993ccd6382afeda46590296bb6d1811be061e7d2fe4bc10f67", func := "warden/wardenlaw12.SlabPlays", spec := "slabPlays", unfollowed := true, recurses := true, plainKeys := false, apart := false }
def SlabPlaysSaid : Prop := slabPlaysRow.holds Try.pinned (OpenSpec.ofChange slabPlaysSpec)

/-- ITS FALSE NEIGHBOUR: 'it returns false'. Refute it at one input. -/
def slabPlaysWrong : ChangeSpec := { name := "slabPlays", fn := fun _ => fun
  | [d1, d2] => { results := [.lit (.bool false)], args := [d1, d2] }
  | _ => none }
def SlabPlaysWrongFalsely : Prop := slabPlaysRow.holds Try.pinned (OpenSpec.ofChange slabPlaysWrong)

/-- 'wardenlaw12.SlabNone': WHATEVER THE INPUT: true; the input reads as it did. -/
def slabNoneSpec : ChangeSpec := { name := "slabNone", fn := fun _ => fun
  | [d1, d2] => { results := [.lit (.bool true)], args := [d1, d2] }
  | _ => none }
def slabNoneRow : OpenClaim := { program := "ytgleceijdedlkaa", sum := "710ecbc464b58b993ccd6382afeda46590296bb6d1811be061e7d2fe4bc10f67", func := "warden/wardenlaw12.SlabNone", spec := "slabNone", unfollowed := true, recurses := true, plainKeys := false, apart := false }
def SlabNoneSaid : Prop := slabNoneRow.holds Try.pinned (OpenSpec.ofChange slabNoneSpec)

/-- ITS FALSE NEIGHBOUR: 'it returns false'. Refute it at one input. -/
def slabNoneWrong : ChangeSpec := { name := "slabNone", fn := fun _ => fun
  | [d1, d2] => { results := [.lit (.bool false)], args := [d1, d2] }
  | _ => none }
def SlabNoneWrongFalsely : Prop := slabNoneRow.holds Try.pinned (OpenSpec.ofChange slabNoneWrong)

/-- 'wardenlaw14.HeapPlays': WHATEVER THE INPUT: true; the input reads as it did. -/
def heapPlaysSpec : ChangeSpec := { name := "heapPlays", fn := fun _ => fun
  | [d1, d2] => { results := [.lit (.bool true)], args := [d1, d2] }
  | _ => none }
def heapPlaysRow : OpenClaim := { program := "ytgleceijdedlkaa", sum := "710ecbc464b58b993ccd6382afeda46590296bb6d1811be061e7d2fe4bc10f67", func := "warden/wardenlaw14.HeapPlays", spec := "heapPlays", unfollowed := true, recurses := true, plainKeys := false, apart := false }
def HeapPlaysSaid : Prop := heapPlaysRow.holds Try.pinned (OpenSpec.ofChange heapPlaysSpec)

/-- ITS FALSE NEIGHBOUR: 'it returns false'. Refute it at one input. -/
def heapPlaysWrong : ChangeSpec := { name := "heapPlays", fn := fun _ => fun
  | [d1, d2] => { results := [.lit (.bool false)], args := [d1, d2] }
  | _ => none }
def HeapPlaysWrongFalsely : Prop := heapPlaysRow.holds Try.pinned (OpenSpec.ofChange heapPlaysWrong)

/-- 'wardenlaw14.HeapNone': WHATEVER THE INPUT: true; the input reads as it did. -/
def heapNoneSpec : ChangeSpec := { name := "heapNone", fn := fun _ => fun
  | [d1, d2] => { results := [.lit (.bool true)], args := [d1, d2] }
  | _ => none }
def heapNoneRow : OpenClaim := { program := "ytgleceijdedlkaa", sum := "710ecbc464b58b993ccd6382afeda46590296bb6d1811be061e7d2fe4bc10f67", func := "warden/wardenlaw14.HeapNone", spec := "heapNone", unfollowed := true, recurses := true, plainKeys := false, apart := false }
def HeapNoneSaid : Prop := heapNoneRow.holds Try.pinned (OpenSpec.ofChange heapNoneSpec)

/-- ITS FALSE NEIGHBOUR: 'it returns false'. Refute it at one input. -/
def heapNoneWrong : ChangeSpec := { name := "heapNone", fn := fun _ => fun
  | [d1, d2] => { results := [.lit (.bool false)], args := [d1, d2] }
  | _ => none }
def HeapNoneWrongFalsely : Prop := heapNoneRow.holds Try.pinned (OpenSpec.ofChange heapNoneWrong)

/- THE SECOND FORM. 'bulk': how many values and letters a reading holds, each counted each time it is reached (what is shared counts as often as it is met; a slice's spare places count too). A statement '..UptoSaid' is the law's where the arguments, and the package variables that the reading takes, are together of bulk at most 1048576: NARROWER than '..Said'. Prove '..Said' where nothing that the law and all that it calls make is longer than what came in: it says more and counts as full. Else prove '..UptoSaid'. A law counts once. -/
mutual
def uptoBulk {H : Type} : DataW H → Nat
  | .lit (.string bytes) => bytes.length + 1
  | .lit _ => 1
  | .nil => 1
  | .ptr d => uptoBulk d + 1
  | .slice elems spare => uptoBulkAll elems + uptoBulkAll spare + 1
  | .agg parts => uptoBulkAll parts + 1
  | .iface _ d => uptoBulk d + 1
  | .map entries => uptoBulkEntries entries + 1
  | .held _ => 1
def uptoBulkAll {H : Type} : List (DataW H) → Nat
  | [] => 0
  | d :: r => uptoBulk d + uptoBulkAll r
def uptoBulkEntries {H : Type} : List (Lit × DataW H) → Nat
  | [] => 0
  | x :: r => uptoBulkEntry x + uptoBulkEntries r
def uptoBulkEntry {H : Type} : Lit × DataW H → Nat
  | (.string bytes, d) => bytes.length + uptoBulk d + 1
  | (_, d) => uptoBulk d + 1
 end
def uptoSmall : (H : Type) → List (DataW H) → Bool := fun _ ds => decide (uptoBulkAll ds ≤ 1048576)
def OpenSpec.upto (s : _root_.Go.ChangeSpec) : _root_.Go.OpenSpec := { _root_.Go.OpenSpec.ofChange s with cond := some uptoSmall }

/-- 'wardenlaw13.HandleApart', WHERE WHAT IT READS IS OF BULK AT MOST 1048576: true; the input reads as it did. -/
def handleApartUptoRow : OpenClaim := { program := "ytgleceijdedlkaa", sum := "710ecbc464b58b993ccd6382afeda46590296bb6d1811be061e7d2fe4bc10f67", func := "warden/wardenlaw13.HandleApart", spec := "handleApart", plainKeys := false, apart := false, narrowed := true }
def HandleApartUptoSaid : Prop := handleApartUptoRow.holds Try.pinned (OpenSpec.upto handleApartSpec)

/-- 'wardenlaw12.SlabApart', WHERE WHAT IT READS IS OF BULK AT MOST 1048576: true; the input reads as it did. -/
def slabApartUptoRow : OpenClaim := { program := "ytgleceijdedlkaa", sum := "710ecbc464b58b993ccd6382afeda46590296bb6d1811be061e7d2fe4bc10f67", func := "warden/wardenlaw12.SlabApart", spec := "slabApart", plainKeys := false, apart := false, narrowed := true }
def SlabApartUptoSaid : Prop := slabApartUptoRow.holds Try.pinned (OpenSpec.upto slabApartSpec)

/-- 'wardenlaw14.HeapCounts', WHERE WHAT IT READS IS OF BULK AT MOST 1048576: true; the input reads as it did. -/
def heapCountsUptoRow : OpenClaim := { program := "ytgleceijdedlkaa", sum := "710ecbc464b58b993ccd6382afeda46590296bb6d1811be061e7d2fe4bc10f67", func := "warden/wardenlaw14.HeapCounts", spec := "heapCounts", plainKeys := false, apart := false, narrowed := true }
def HeapCountsUptoSaid : Prop := heapCountsUptoRow.holds Try.pinned (OpenSpec.upto heapCountsSpec)

/-- 'wardenlaw14.HeapBytes', WHERE WHAT IT READS IS OF BULK AT MOST 1048576: true; the input reads as it did. -/
def heapBytesUptoRow : OpenClaim := { program := "ytgleceijdedlkaa", sum := "710ecbc464b58b993ccd6382afeda46590296bb6d1811be061e7d2fe4bc10f67", func := "warden/wardenlaw14.HeapBytes", spec := "heapBytes", plainKeys := false, apart := false, narrowed := true }
def HeapBytesUptoSaid : Prop := heapBytesUptoRow.holds Try.pinned (OpenSpec.upto heapBytesSpec)

/-- 'wardenlaw14.HeapApart', WHERE WHAT IT READS IS OF BULK AT MOST 1048576: true; the input reads as it did. -/
def heapApartUptoRow : OpenClaim := { program := "ytgleceijdedlkaa", sum := "710ecbc464b58b993ccd6382afeda46590296bb6d1811be061e7d2fe4bc10f67", func := "warden/wardenlaw14.HeapApart", spec := "heapApart", plainKeys := false, apart := false, narrowed := true }
def HeapApartUptoSaid : Prop := heapApartUptoRow.holds Try.pinned (OpenSpec.upto heapApartSpec)

/-- 'wardenlaw13.HandlePlays', WHERE WHAT IT READS IS OF BULK AT MOST 1048576: true; the input reads as it did. -/
def handlePlaysUptoRow : OpenClaim := { program := "ytgleceijdedlkaa", sum := "710ecbc464b58b993ccd6382afeda46590296bb6d1811be061e7d2fe4bc10f67", func := "warden/wardenlaw13.HandlePlays", spec := "handlePlays", unfollowed := true, recurses := true, plainKeys := false, apart := false, narrowed := true }
def HandlePlaysUptoSaid : Prop := handlePlaysUptoRow.holds Try.pinned (OpenSpec.upto handlePlaysSpec)

/-- 'wardenlaw13.HandleOnce', WHERE WHAT IT READS IS OF BULK AT MOST 1048576: true; the input reads as it did. -/
def handleOnceUptoRow : OpenClaim := { program := "ytgleceijdedlkaa", sum := "710ecbc464b58b993ccd6382afeda46590296bb6d1811be061e7d2fe4bc10f67", func := "warden/wardenlaw13.HandleOnce", spec := "handleOnce", unfollowed := true, recurses := true, plainKeys := false, apart := false, narrowed := true }
def HandleOnceUptoSaid : Prop := handleOnceUptoRow.holds Try.pinned (OpenSpec.upto handleOnceSpec)

/-- 'wardenlaw13.HandleNone', WHERE WHAT IT READS IS OF BULK AT MOST 1048576: true; the input reads as it did. -/
def handleNoneUptoRow : OpenClaim := { program := "ytgleceijdedlkaa", sum := "710ecbc464b58b993ccd6382afeda46590296bb6d1811be061e7d2fe4bc10f67", func := "warden/wardenlaw13.HandleNone", spec := "handleNone", unfollowed := true, recurses := true, plainKeys := false, apart := false, narrowed := true }
def HandleNoneUptoSaid : Prop := handleNoneUptoRow.holds Try.pinned (OpenSpec.upto handleNoneSpec)

/-- 'wardenlaw12.SlabRoom', WHERE WHAT IT READS IS OF BULK AT MOST 1048576: true; the input reads as it did. -/
def slabRoomUptoRow : OpenClaim := { program := "ytgleceijdedlkaa", sum := "710ecbc464b58b993ccd6382afeda46590296bb6d1811be061e7d2fe4bc10f67", func := "warden/wardenlaw12.SlabRoom", spec := "slabRoom", unfollowed := true, recurses := true, plainKeys := false, apart := false, narrowed := true }
def SlabRoomUptoSaid : Prop := slabRoomUptoRow.holds Try.pinned (OpenSpec.upto slabRoomSpec)

/-- 'wardenlaw12.SlabReuse', WHERE WHAT IT READS IS OF BULK AT MOST 1048576: true; the input reads as it did. -/
def slabReuseUptoRow : OpenClaim := { program := "ytgleceijdedlkaa", sum := "710ecbc464b58b993ccd6382afeda46590296bb6d1811be061e7d2fe4bc10f67", func := "warden/wardenlaw12.SlabReuse", spec := "slabReuse", unfollowed := true, recurses := true, plainKeys := false, apart := false, narrowed := true }
def SlabReuseUptoSaid : Prop := slabReuseUptoRow.holds Try.pinned (OpenSpec.upto slabReuseSpec)

/-- 'wardenlaw12.SlabPlays', WHERE WHAT IT READS IS OF BULK AT MOST 1048576: true; the input reads as it did. -/
def slabPlaysUptoRow : OpenClaim := { program := "ytgleceijdedlkaa", sum := "710ecbc464b58b993ccd6382afeda46590296bb6d1811be061e7d2fe4bc10f67", func := "warden/wardenlaw12.SlabPlays", spec := "slabPlays", unfollowed := true, recurses := true, plainKeys := false, apart := false, narrowed := true }
def SlabPlaysUptoSaid : Prop := slabPlaysUptoRow.holds Try.pinned (OpenSpec.upto slabPlaysSpec)

/-- 'wardenlaw12.SlabNone', WHERE WHAT IT READS IS OF BULK AT MOST 1048576: true; the input reads as it did. -/
def slabNoneUptoRow : OpenClaim := { program := "ytgleceijdedlkaa", sum := "710ecbc464b58b993ccd6382afeda46590296bb6d1811be061e7d2fe4bc10f67", func := "warden/wardenlaw12.SlabNone", spec := "slabNone", unfollowed := true, recurses := true, plainKeys := false, apart := false, narrowed := true }
def SlabNoneUptoSaid : Prop := slabNoneUptoRow.holds Try.pinned (OpenSpec.upto slabNoneSpec)

/-- 'wardenlaw14.HeapPlays', WHERE WHAT IT READS IS OF BULK AT MOST 1048576: true; the input reads as it did. -/
def heapPlaysUptoRow : OpenClaim := { program := "ytgleceijdedlkaa", sum := "710ecbc464b58b993ccd6382afeda46590296bb6d1811be061e7d2fe4bc10f67", func := "warden/wardenlaw14.HeapPlays", spec := "heapPlays", unfollowed := true, recurses := true, plainKeys := false, apart := false, narrowed := true }
def HeapPlaysUptoSaid : Prop := heapPlaysUptoRow.holds Try.pinned (OpenSpec.upto heapPlaysSpec)

/-- 'wardenlaw14.HeapNone', WHERE WHAT IT READS IS OF BULK AT MOST 1048576: true; the input reads as it did. -/
def heapNoneUptoRow : OpenClaim := { program := "ytgleceijdedlkaa", sum := "710ecbc464b58b993ccd6382afeda46590296bb6d1811be061e7d2fe4bc10f67", func := "warden/wardenlaw14.HeapNone", spec := "heapNone", unfollowed := true, recurses := true, plainKeys := false, apart := false, narrowed := true }
def HeapNoneUptoSaid : Prop := heapNoneUptoRow.holds Try.pinned (OpenSpec.upto heapNoneSpec)

end Rows
end Go.Proofs.Ytgleceijdedlkaa
