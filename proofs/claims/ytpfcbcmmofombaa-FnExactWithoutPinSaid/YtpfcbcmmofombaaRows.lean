/-
  No cell of these rows narrows 'for every input' (looked for: loops, veiled, ifaces, maps, wideKeys, modest, calm, conditions, laid).
  DERIVED. THE GIVEN ROWS OF THIS SEAT. 12 by the template 'for every input the law returns true; each argument reads behind the call as it read before'; 0 by the template 'total and deterministic' (their statements: YtpfcbcmmofombaaTotals.lean).
  GIVEN WITH THE SEED: the statements are not yours to turn. If you find one false, say at which input.
  Laid BY PROGRAM, IN A SANDBOX (cutbox-rows.mjs): the forced cells as the released guide's own fill.sh prints them over the translation 9df859c366bf0b11… (all of the seat's roots in one cut). By AI agents, Wed Nov 11 2026. No macro, syntax, notation, axiom, sorry.
-/
import Derived.Test.YtpfcbcmmofombaaChecked
import GoSem.Claim
import GoSem.ClaimJoined
import GoSem.ClaimMapViews
import Derived.JoinedTies
import Derived.KernelRfl
namespace Go.Proofs.Ytpfcbcmmofombaa
/- THE CELL 'sum', in the pinned program and in every row, IS THE sha256 OF THE DUMP (.gsa) THAT YtpfcbcmmofombaaProg.lean LOADS. Nothing in Lean hashes anything: it is a label: what it is worth is what the hold of that sum in a sandbox is worth. -/
noncomputable def Try.pinned : Pinned := { name := "ytpfcbcmmofombaa", sum := "9df859c366bf0b11b737858abc5892aed407ccd975df38d552103482299c9d3d", checked := Try.checked }
namespace Rows
def none {H : Type} : Left H := { results := [], args := [] }

/-- 'laws.FnExactValidFrame': WHATEVER THE INPUT: true; the input reads as it did. -/
def fnExactValidFrameSpec : ChangeSpec := { name := "fnExactValidFrame", fn := fun _ => fun
  | [d] => { results := [.lit (.bool true)], args := [d] }
  | _ => none }
def fnExactValidFrameRow : OpenClaim := { program := "ytpfcbcmmofombaa", sum := "9df859c366bf0b11b737858abc5892aed407ccd975df38d552103482299c9d3d", func := "loop.example/g01311/laws.FnExactValidFrame", spec := "fnExactValidFrame", unfollowed := true, recurses := true, apart := false }
def FnExactValidFrameSaid : Prop := fnExactValidFrameRow.holds Try.pinned (OpenSpec.ofChange fnExactValidFrameSpec)

/-- ITS FALSE NEIGHBOUR: 'it returns false'. Refute it at one input. -/
def fnExactValidFrameWrong : ChangeSpec := { name := "fnExactValidFrame", fn := fun _ => fun
  | [d] => { results := [.lit (.bool false)], args := [d] }
  | _ => none }
def FnExactValidFrameWrongFalsely : Prop := fnExactValidFrameRow.holds Try.pinned (OpenSpec.ofChange fnExactValidFrameWrong)

/-- 'laws.FnExactBellsOf': WHATEVER THE INPUT: true; the input reads as it did. -/
def fnExactBellsOfSpec : ChangeSpec := { name := "fnExactBellsOf", fn := fun _ => fun
  | [d] => { results := [.lit (.bool true)], args := [d] }
  | _ => none }
def fnExactBellsOfRow : OpenClaim := { program := "ytpfcbcmmofombaa", sum := "9df859c366bf0b11b737858abc5892aed407ccd975df38d552103482299c9d3d", func := "loop.example/g01311/laws.FnExactBellsOf", spec := "fnExactBellsOf", unfollowed := true, recurses := true, apart := false }
def FnExactBellsOfSaid : Prop := fnExactBellsOfRow.holds Try.pinned (OpenSpec.ofChange fnExactBellsOfSpec)

/-- ITS FALSE NEIGHBOUR: 'it returns false'. Refute it at one input. -/
def fnExactBellsOfWrong : ChangeSpec := { name := "fnExactBellsOf", fn := fun _ => fun
  | [d] => { results := [.lit (.bool false)], args := [d] }
  | _ => none }
def FnExactBellsOfWrongFalsely : Prop := fnExactBellsOfRow.holds Try.pinned (OpenSpec.ofChange fnExactBellsOfWrong)

/-- 'laws.FnExactValidDrum': WHATEVER THE INPUT: true; the input reads as it did. -/
def fnExactValidDrumSpec : ChangeSpec := { name := "fnExactValidDrum", fn := fun _ => fun
  | [d1, d2] => { results := [.lit (.bool true)], args := [d1, d2] }
  | _ => none }
def fnExactValidDrumRow : OpenClaim := { program := "ytpfcbcmmofombaa", sum := "9df859c366bf0b11b737858abc5892aed407ccd975df38d552103482299c9d3d", func := "loop.example/g01311/laws.FnExactValidDrum", spec := "fnExactValidDrum", unfollowed := true, recurses := true, apart := false }
def FnExactValidDrumSaid : Prop := fnExactValidDrumRow.holds Try.pinned (OpenSpec.ofChange fnExactValidDrumSpec)

/-- ITS FALSE NEIGHBOUR: 'it returns false'. Refute it at one input. -/
def fnExactValidDrumWrong : ChangeSpec := { name := "fnExactValidDrum", fn := fun _ => fun
  | [d1, d2] => { results := [.lit (.bool false)], args := [d1, d2] }
  | _ => none }
def FnExactValidDrumWrongFalsely : Prop := fnExactValidDrumRow.holds Try.pinned (OpenSpec.ofChange fnExactValidDrumWrong)

/-- 'laws.FnExactHammersFor': WHATEVER THE INPUT: true; the input reads as it did. -/
def fnExactHammersForSpec : ChangeSpec := { name := "fnExactHammersFor", fn := fun _ => fun
  | [d1, d2] => { results := [.lit (.bool true)], args := [d1, d2] }
  | _ => none }
def fnExactHammersForRow : OpenClaim := { program := "ytpfcbcmmofombaa", sum := "9df859c366bf0b11b737858abc5892aed407ccd975df38d552103482299c9d3d", func := "loop.example/g01311/laws.FnExactHammersFor", spec := "fnExactHammersFor", unfollowed := true, recurses := true, apart := false }
def FnExactHammersForSaid : Prop := fnExactHammersForRow.holds Try.pinned (OpenSpec.ofChange fnExactHammersForSpec)

/-- ITS FALSE NEIGHBOUR: 'it returns false'. Refute it at one input. -/
def fnExactHammersForWrong : ChangeSpec := { name := "fnExactHammersFor", fn := fun _ => fun
  | [d1, d2] => { results := [.lit (.bool false)], args := [d1, d2] }
  | _ => none }
def FnExactHammersForWrongFalsely : Prop := fnExactHammersForRow.holds Try.pinned (OpenSpec.ofChange fnExactHammersForWrong)

/-- 'laws.FnExactMirrorDrum': WHATEVER THE INPUT: true; the input reads as it did. -/
def fnExactMirrorDrumSpec : ChangeSpec := { name := "fnExactMirrorDrum", fn := fun _ => fun
  | [d1, d2] => { results := [.lit (.bool true)], args := [d1, d2] }
  | _ => none }
def fnExactMirrorDrumRow : OpenClaim := { program := "ytpfcbcmmofombaa", sum := "9df859c366bf0b11b737858abc5892aed407ccd975df38d552103482299c9d3d", func := "loop.example/g01311/laws.FnExactMirrorDrum", spec := "fnExactMirrorDrum", unfollowed := true, recurses := true, apart := false }
def FnExactMirrorDrumSaid : Prop := fnExactMirrorDrumRow.holds Try.pinned (OpenSpec.ofChange fnExactMirrorDrumSpec)

/-- ITS FALSE NEIGHBOUR: 'it returns false'. Refute it at one input. -/
def fnExactMirrorDrumWrong : ChangeSpec := { name := "fnExactMirrorDrum", fn := fun _ => fun
  | [d1, d2] => { results := [.lit (.bool false)], args := [d1, d2] }
  | _ => none }
def FnExactMirrorDrumWrongFalsely : Prop := fnExactMirrorDrumRow.holds Try.pinned (OpenSpec.ofChange fnExactMirrorDrumWrong)

/-- 'laws.FnExactCountPins': WHATEVER THE INPUT: true; the input reads as it did. -/
def fnExactCountPinsSpec : ChangeSpec := { name := "fnExactCountPins", fn := fun _ => fun
  | [d1, d2] => { results := [.lit (.bool true)], args := [d1, d2] }
  | _ => none }
def fnExactCountPinsRow : OpenClaim := { program := "ytpfcbcmmofombaa", sum := "9df859c366bf0b11b737858abc5892aed407ccd975df38d552103482299c9d3d", func := "loop.example/g01311/laws.FnExactCountPins", spec := "fnExactCountPins", unfollowed := true, recurses := true, apart := false }
def FnExactCountPinsSaid : Prop := fnExactCountPinsRow.holds Try.pinned (OpenSpec.ofChange fnExactCountPinsSpec)

/-- ITS FALSE NEIGHBOUR: 'it returns false'. Refute it at one input. -/
def fnExactCountPinsWrong : ChangeSpec := { name := "fnExactCountPins", fn := fun _ => fun
  | [d1, d2] => { results := [.lit (.bool false)], args := [d1, d2] }
  | _ => none }
def FnExactCountPinsWrongFalsely : Prop := fnExactCountPinsRow.holds Try.pinned (OpenSpec.ofChange fnExactCountPinsWrong)

/-- 'laws.FnExactHasPin': WHATEVER THE INPUT: true; the input reads as it did. -/
def fnExactHasPinSpec : ChangeSpec := { name := "fnExactHasPin", fn := fun _ => fun
  | [d1, d2, d3, d4] => { results := [.lit (.bool true)], args := [d1, d2, d3, d4] }
  | _ => none }
def fnExactHasPinRow : OpenClaim := { program := "ytpfcbcmmofombaa", sum := "9df859c366bf0b11b737858abc5892aed407ccd975df38d552103482299c9d3d", func := "loop.example/g01311/laws.FnExactHasPin", spec := "fnExactHasPin", unfollowed := true, recurses := true, apart := false }
def FnExactHasPinSaid : Prop := fnExactHasPinRow.holds Try.pinned (OpenSpec.ofChange fnExactHasPinSpec)

/-- ITS FALSE NEIGHBOUR: 'it returns false'. Refute it at one input. -/
def fnExactHasPinWrong : ChangeSpec := { name := "fnExactHasPin", fn := fun _ => fun
  | [d1, d2, d3, d4] => { results := [.lit (.bool false)], args := [d1, d2, d3, d4] }
  | _ => none }
def FnExactHasPinWrongFalsely : Prop := fnExactHasPinRow.holds Try.pinned (OpenSpec.ofChange fnExactHasPinWrong)

/-- 'laws.FnExactPinsToMove': WHATEVER THE INPUT: true; the input reads as it did. -/
def fnExactPinsToMoveSpec : ChangeSpec := { name := "fnExactPinsToMove", fn := fun _ => fun
  | [d1, d2, d3] => { results := [.lit (.bool true)], args := [d1, d2, d3] }
  | _ => none }
def fnExactPinsToMoveRow : OpenClaim := { program := "ytpfcbcmmofombaa", sum := "9df859c366bf0b11b737858abc5892aed407ccd975df38d552103482299c9d3d", func := "loop.example/g01311/laws.FnExactPinsToMove", spec := "fnExactPinsToMove", unfollowed := true, recurses := true, apart := false }
def FnExactPinsToMoveSaid : Prop := fnExactPinsToMoveRow.holds Try.pinned (OpenSpec.ofChange fnExactPinsToMoveSpec)

/-- ITS FALSE NEIGHBOUR: 'it returns false'. Refute it at one input. -/
def fnExactPinsToMoveWrong : ChangeSpec := { name := "fnExactPinsToMove", fn := fun _ => fun
  | [d1, d2, d3] => { results := [.lit (.bool false)], args := [d1, d2, d3] }
  | _ => none }
def FnExactPinsToMoveWrongFalsely : Prop := fnExactPinsToMoveRow.holds Try.pinned (OpenSpec.ofChange fnExactPinsToMoveWrong)

/-- 'laws.FnExactTurnDrum': WHATEVER THE INPUT: true; the input reads as it did. -/
def fnExactTurnDrumSpec : ChangeSpec := { name := "fnExactTurnDrum", fn := fun _ => fun
  | [d1, d2, d3] => { results := [.lit (.bool true)], args := [d1, d2, d3] }
  | _ => none }
def fnExactTurnDrumRow : OpenClaim := { program := "ytpfcbcmmofombaa", sum := "9df859c366bf0b11b737858abc5892aed407ccd975df38d552103482299c9d3d", func := "loop.example/g01311/laws.FnExactTurnDrum", spec := "fnExactTurnDrum", unfollowed := true, recurses := true, apart := false }
def FnExactTurnDrumSaid : Prop := fnExactTurnDrumRow.holds Try.pinned (OpenSpec.ofChange fnExactTurnDrumSpec)

/-- ITS FALSE NEIGHBOUR: 'it returns false'. Refute it at one input. -/
def fnExactTurnDrumWrong : ChangeSpec := { name := "fnExactTurnDrum", fn := fun _ => fun
  | [d1, d2, d3] => { results := [.lit (.bool false)], args := [d1, d2, d3] }
  | _ => none }
def FnExactTurnDrumWrongFalsely : Prop := fnExactTurnDrumRow.holds Try.pinned (OpenSpec.ofChange fnExactTurnDrumWrong)

/-- 'laws.FnExactWithPin': WHATEVER THE INPUT: true; the input reads as it did. -/
def fnExactWithPinSpec : ChangeSpec := { name := "fnExactWithPin", fn := fun _ => fun
  | [d1, d2, d3, d4] => { results := [.lit (.bool true)], args := [d1, d2, d3, d4] }
  | _ => none }
def fnExactWithPinRow : OpenClaim := { program := "ytpfcbcmmofombaa", sum := "9df859c366bf0b11b737858abc5892aed407ccd975df38d552103482299c9d3d", func := "loop.example/g01311/laws.FnExactWithPin", spec := "fnExactWithPin", unfollowed := true, recurses := true, apart := false }
def FnExactWithPinSaid : Prop := fnExactWithPinRow.holds Try.pinned (OpenSpec.ofChange fnExactWithPinSpec)

/-- ITS FALSE NEIGHBOUR: 'it returns false'. Refute it at one input. -/
def fnExactWithPinWrong : ChangeSpec := { name := "fnExactWithPin", fn := fun _ => fun
  | [d1, d2, d3, d4] => { results := [.lit (.bool false)], args := [d1, d2, d3, d4] }
  | _ => none }
def FnExactWithPinWrongFalsely : Prop := fnExactWithPinRow.holds Try.pinned (OpenSpec.ofChange fnExactWithPinWrong)

/-- 'laws.FnExactWithoutPin': WHATEVER THE INPUT: true; the input reads as it did. -/
def fnExactWithoutPinSpec : ChangeSpec := { name := "fnExactWithoutPin", fn := fun _ => fun
  | [d1, d2, d3, d4] => { results := [.lit (.bool true)], args := [d1, d2, d3, d4] }
  | _ => none }
def fnExactWithoutPinRow : OpenClaim := { program := "ytpfcbcmmofombaa", sum := "9df859c366bf0b11b737858abc5892aed407ccd975df38d552103482299c9d3d", func := "loop.example/g01311/laws.FnExactWithoutPin", spec := "fnExactWithoutPin", unfollowed := true, recurses := true, apart := false }
def FnExactWithoutPinSaid : Prop := fnExactWithoutPinRow.holds Try.pinned (OpenSpec.ofChange fnExactWithoutPinSpec)

/-- ITS FALSE NEIGHBOUR: 'it returns false'. Refute it at one input. -/
def fnExactWithoutPinWrong : ChangeSpec := { name := "fnExactWithoutPin", fn := fun _ => fun
  | [d1, d2, d3, d4] => { results := [.lit (.bool false)], args := [d1, d2, d3, d4] }
  | _ => none }
def FnExactWithoutPinWrongFalsely : Prop := fnExactWithoutPinRow.holds Try.pinned (OpenSpec.ofChange fnExactWithoutPinWrong)

/-- 'laws.FnExactHammersNeeded': WHATEVER THE INPUT: true; the input reads as it did. -/
def fnExactHammersNeededSpec : ChangeSpec := { name := "fnExactHammersNeeded", fn := fun _ => fun
  | [d1, d2, d3] => { results := [.lit (.bool true)], args := [d1, d2, d3] }
  | _ => none }
def fnExactHammersNeededRow : OpenClaim := { program := "ytpfcbcmmofombaa", sum := "9df859c366bf0b11b737858abc5892aed407ccd975df38d552103482299c9d3d", func := "loop.example/g01311/laws.FnExactHammersNeeded", spec := "fnExactHammersNeeded", unfollowed := true, recurses := true, apart := false }
def FnExactHammersNeededSaid : Prop := fnExactHammersNeededRow.holds Try.pinned (OpenSpec.ofChange fnExactHammersNeededSpec)

/-- ITS FALSE NEIGHBOUR: 'it returns false'. Refute it at one input. -/
def fnExactHammersNeededWrong : ChangeSpec := { name := "fnExactHammersNeeded", fn := fun _ => fun
  | [d1, d2, d3] => { results := [.lit (.bool false)], args := [d1, d2, d3] }
  | _ => none }
def FnExactHammersNeededWrongFalsely : Prop := fnExactHammersNeededRow.holds Try.pinned (OpenSpec.ofChange fnExactHammersNeededWrong)

/- THE SECOND FORM. 'bulk': how many values and letters a reading holds, each counted each time it is reached (what is shared counts as often as it is met; a slice's spare places count too). A statement '..UptoSaid' is the law's where the arguments, and the package variables that the reading takes, are together of bulk at most 1048576: NARROWER than '..Said'. Prove '..Said' where nothing that the law and all that it calls make is longer than what came in: it says more and counts as full. Else prove '..UptoSaid'. A law counts once. -/
mutual
def uptoBulk {H : Type} : DataW H → Nat
  | .lit (.string bytes) => bytes.length + 1
  | .lit _ => 1
  | .nil => 1
  | .ptr d => uptoBulk d + 1
  | .slice elems spare => uptoBulkAll elems + uptoBulkAll spare + 1
  | .agg parts => uptoBulkAll parts + 1
  | .iface _ d => uptoBulk d + 1
  | .map entries => uptoBulkEntries entries + 1
  | .held _ => 1
def uptoBulkAll {H : Type} : List (DataW H) → Nat
  | [] => 0
  | d :: r => uptoBulk d + uptoBulkAll r
def uptoBulkEntries {H : Type} : List (Lit × DataW H) → Nat
  | [] => 0
  | x :: r => uptoBulkEntry x + uptoBulkEntries r
def uptoBulkEntry {H : Type} : Lit × DataW H → Nat
  | (.string bytes, d) => bytes.length + uptoBulk d + 1
  | (_, d) => uptoBulk d + 1
 end
def uptoSmall : (H : Type) → List (DataW H) → Bool := fun _ ds => decide (uptoBulkAll ds ≤ 1048576)
def OpenSpec.upto (s : _root_.Go.ChangeSpec) : _root_.Go.OpenSpec := { _root_.Go.OpenSpec.ofChange s with cond := some uptoSmall }

/-- 'laws.FnExactValidFrame', WHERE WHAT IT READS IS OF BULK AT MOST 1048576: true; the input reads as it did. -/
def fnExactValidFrameUptoRow : OpenClaim := { program := "ytpfcbcmmofombaa", sum := "9df859c366bf0b11b737858abc5892aed407ccd975df38d552103482299c9d3d", func := "loop.example/g01311/laws.FnExactValidFrame", spec := "fnExactValidFrame", unfollowed := true, recurses := true, apart := false, narrowed := true }
def FnExactValidFrameUptoSaid : Prop := fnExactValidFrameUptoRow.holds Try.pinned (OpenSpec.upto fnExactValidFrameSpec)

/-- 'laws.FnExactBellsOf', WHERE WHAT IT READS IS OF BULK AT MOST 1048576: true; the input reads as it did. -/
def fnExactBellsOfUptoRow : OpenClaim := { program := "ytpfcbcmmofombaa", sum := "9df859c366bf0b11b737858abc5892aed407ccd975df38d552103482299c9d3d", func := "loop.example/g01311/laws.FnExactBellsOf", spec := "fnExactBellsOf", unfollowed := true, recurses := true, apart := false, narrowed := true }
def FnExactBellsOfUptoSaid : Prop := fnExactBellsOfUptoRow.holds Try.pinned (OpenSpec.upto fnExactBellsOfSpec)

/-- 'laws.FnExactValidDrum', WHERE WHAT IT READS IS OF BULK AT MOST 1048576: true; the input reads as it did. -/
def fnExactValidDrumUptoRow : OpenClaim := { program := "ytpfcbcmmofombaa", sum := "9df859c366bf0b11b737858abc5892aed407ccd975df38d552103482299c9d3d", func := "loop.example/g01311/laws.FnExactValidDrum", spec := "fnExactValidDrum", unfollowed := true, recurses := true, apart := false, narrowed := true }
def FnExactValidDrumUptoSaid : Prop := fnExactValidDrumUptoRow.holds Try.pinned (OpenSpec.upto fnExactValidDrumSpec)

/-- 'laws.FnExactHammersFor', WHERE WHAT IT READS IS OF BULK AT MOST 1048576: true; the input reads as it did. -/
def fnExactHammersForUptoRow : OpenClaim := { program := "ytpfcbcmmofombaa", sum := "9df859c366bf0b11b737858abc5892aed407ccd975df38d552103482299c9d3d", func := "loop.example/g01311/laws.FnExactHammersFor", spec := "fnExactHammersFor", unfollowed := true, recurses := true, apart := false, narrowed := true }
def FnExactHammersForUptoSaid : Prop := fnExactHammersForUptoRow.holds Try.pinned (OpenSpec.upto fnExactHammersForSpec)

/-- 'laws.FnExactMirrorDrum', WHERE WHAT IT READS IS OF BULK AT MOST 1048576: true; the input reads as it did. -/
def fnExactMirrorDrumUptoRow : OpenClaim := { program := "ytpfcbcmmofombaa", sum := "9df859c366bf0b11b737858abc5892aed407ccd975df38d552103482299c9d3d", func := "loop.example/g01311/laws.FnExactMirrorDrum", spec := "fnExactMirrorDrum", unfollowed := true, recurses := true, apart := false, narrowed := true }
def FnExactMirrorDrumUptoSaid : Prop := fnExactMirrorDrumUptoRow.holds Try.pinned (OpenSpec.upto fnExactMirrorDrumSpec)

/-- 'laws.FnExactCountPins', WHERE WHAT IT READS IS OF BULK AT MOST 1048576: true; the input reads as it did. -/
def fnExactCountPinsUptoRow : OpenClaim := { program := "ytpfcbcmmofombaa", sum := "9df859c366bf0b11b737858abc5892aed407ccd975df38d552103482299c9d3d", func := "loop.example/g01311/laws.FnExactCountPins", spec := "fnExactCountPins", unfollowed := true, recurses := true, apart := false, narrowed := true }
def FnExactCountPinsUptoSaid : Prop := fnExactCountPinsUptoRow.holds Try.pinned (OpenSpec.upto fnExactCountPinsSpec)

/-- 'laws.FnExactHasPin', WHERE WHAT IT READS IS OF BULK AT MOST 1048576: true; the input reads as it did. -/
def fnExactHasPinUptoRow : OpenClaim := { program := "ytpfcbcmmofombaa", sum := "9df859c366bf0b11b737858abc5892aed407ccd975df38d552103482299c9d3d", func := "loop.example/g01311/laws.FnExactHasPin", spec := "fnExactHasPin", unfollowed := true, recurses := true, apart := false, narrowed := true }
def FnExactHasPinUptoSaid : Prop := fnExactHasPinUptoRow.holds Try.pinned (OpenSpec.upto fnExactHasPinSpec)

/-- 'laws.FnExactPinsToMove', WHERE WHAT IT READS IS OF BULK AT MOST 1048576: true; the input reads as it did. -/
def fnExactPinsToMoveUptoRow : OpenClaim := { program := "ytpfcbcmmofombaa", sum := "9df859c366bf0b11b737858abc5892aed407ccd975df38d552103482299c9d3d", func := "loop.example/g01311/laws.FnExactPinsToMove", spec := "fnExactPinsToMove", unfollowed := true, recurses := true, apart := false, narrowed := true }
def FnExactPinsToMoveUptoSaid : Prop := fnExactPinsToMoveUptoRow.holds Try.pinned (OpenSpec.upto fnExactPinsToMoveSpec)

/-- 'laws.FnExactTurnDrum', WHERE WHAT IT READS IS OF BULK AT MOST 1048576: true; the input reads as it did. -/
def fnExactTurnDrumUptoRow : OpenClaim := { program := "ytpfcbcmmofombaa", sum := "9df859c366bf0b11b737858abc5892aed407ccd975df38d552103482299c9d3d", func := "loop.example/g01311/laws.FnExactTurnDrum", spec := "fnExactTurnDrum", unfollowed := true, recurses := true, apart := false, narrowed := true }
def FnExactTurnDrumUptoSaid : Prop := fnExactTurnDrumUptoRow.holds Try.pinned (OpenSpec.upto fnExactTurnDrumSpec)

/-- 'laws.FnExactWithPin', WHERE WHAT IT READS IS OF BULK AT MOST 1048576: true; the input reads as it did. -/
def fnExactWithPinUptoRow : OpenClaim := { program := "ytpfcbcmmofombaa", sum := "9df859c366bf0b11b737858abc5892aed407ccd975df38d552103482299c9d3d", func := "loop.example/g01311/laws.FnExactWithPin", spec := "fnExactWithPin", unfollowed := true, recurses := true, apart := false, narrowed := true }
def FnExactWithPinUptoSaid : Prop := fnExactWithPinUptoRow.holds Try.pinned (OpenSpec.upto fnExactWithPinSpec)

/-- 'laws.FnExactWithoutPin', WHERE WHAT IT READS IS OF BULK AT MOST 1048576: true; the input reads as it did. -/
def fnExactWithoutPinUptoRow : OpenClaim := { program := "ytpfcbcmmofombaa", sum := "9df859c366bf0b11b737858abc5892aed407ccd975df38d552103482299c9d3d", func := "loop.example/g01311/laws.FnExactWithoutPin", spec := "fnExactWithoutPin", unfollowed := true, recurses := true, apart := false, narrowed := true }
def FnExactWithoutPinUptoSaid : Prop := fnExactWithoutPinUptoRow.holds Try.pinned (OpenSpec.upto fnExactWithoutPinSpec)

/-- 'laws.FnExactHammersNeeded', WHERE WHAT IT READS IS OF BULK AT MOST 1048576: true; the input reads as it did. -/
def fnExactHammersNeededUptoRow : OpenClaim := { program := "ytpfcbcmmofombaa", sum := "9df859c366bf0b11b737858abc5892aed407ccd975df38d552103482299c9d3d", func := "loop.example/g01311/laws.FnExactHammersNeeded", spec := "fnExactHammersNeeded", unfollowed := true, recurses := true, apart := false, narrowed := true }
def FnExactHammersNeededUptoSaid : Prop := fnExactHammersNeededUptoRow.holds Try.pinned (OpenSpec.upto fnExactHammersNeededSpec)

end Rows
end Go.Proofs.Ytpfcbcmmofombaa
