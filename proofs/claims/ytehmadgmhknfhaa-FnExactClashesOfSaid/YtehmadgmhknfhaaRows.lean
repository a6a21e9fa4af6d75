/-
  No cell of these rows narrows 'for every input' (looked for: loops, veiled, ifaces, maps, wideKeys, modest, calm, conditions, laid).
  DERIVED. THE GIVEN ROWS OF THIS SEAT. 8 by the template 'for every input the law returns true; each argument reads behind the call as it read before'; 0 by the template 'total and deterministic' (their statements: YtehmadgmhknfhaaTotals.lean).
  GIVEN WITH THE SEED: the statements are not yours to turn. If you find one false, say at which input.
  Laid BY PROGRAM, IN A SANDBOX (cutbox-rows.mjs): the forced cells as the released guide's own fill.sh prints them over the translation 1c7bed1389c7ef52… (all of the seat's roots in one cut). By AI agents, Wed Nov 11 2026. No macro, syntax, notation, axiom, sorry.
-/
import Derived.Test.YtehmadgmhknfhaaChecked
import GoSem.Claim
import GoSem.ClaimJoined
import GoSem.ClaimMapViews
import Derived.JoinedTies
import Derived.KernelRfl
namespace Go.Proofs.Ytehmadgmhknfhaa
/- THE CELL 'sum', in the pinned program and in every row, IS THE sha256 OF THE DUMP (.gsa) THAT YtehmadgmhknfhaaProg.lean LOADS. Nothing in Lean hashes anything: it is a label: what it is worth is what the hold of that sum in a sandbox is worth. -/
noncomputable def Try.pinned : Pinned := { name := "ytehmadgmhknfhaa", sum := "1c7bed1389c7ef5257897db3402d2232bd3fd994e60576f402a2dd15f1dc6e30", checked := Try.checked }
namespace Rows
def none {H : Type} : Left H := { results := [], args := [] }

/-- 'laws.FnExactIsPlayable': WHATEVER THE INPUT: true; the input reads as it did. -/
def fnExactIsPlayableSpec : ChangeSpec := { name := "fnExactIsPlayable", fn := fun _ => fun
  | [d1, d2] => { results := [.lit (.bool true)], args := [d1, d2] }
  | _ => none }
def fnExactIsPlayableRow : OpenClaim := { program := "ytehmadgmhknfhaa", sum := "1c7bed1389c7ef5257897db3402d2232bd3fd994e60576f402a2dd15f1dc6e30", func := "loop.example/g01311/laws.FnExactIsPlayable", spec := "fnExactIsPlayable", unfollowed := true, recurses := true, apart := false }
def FnExactIsPlayableSaid : Prop := fnExactIsPlayableRow.holds Try.pinned (OpenSpec.ofChange fnExactIsPlayableSpec)

/-- ITS FALSE NEIGHBOUR: 'it returns false'. Refute it at one input. -/
def fnExactIsPlayableWrong : ChangeSpec := { name := "fnExactIsPlayable", fn := fun _ => fun
  | [d1, d2] => { results := [.lit (.bool false)], args := [d1, d2] }
  | _ => none }
def FnExactIsPlayableWrongFalsely : Prop := fnExactIsPlayableRow.holds Try.pinned (OpenSpec.ofChange fnExactIsPlayableWrong)

/-- 'laws.FnExactPinsByTrack': WHATEVER THE INPUT: true; the input reads as it did. -/
def fnExactPinsByTrackSpec : ChangeSpec := { name := "fnExactPinsByTrack", fn := fun _ => fun
  | [d1, d2] => { results := [.lit (.bool true)], args := [d1, d2] }
  | _ => none }
def fnExactPinsByTrackRow : OpenClaim := { program := "ytehmadgmhknfhaa", sum := "1c7bed1389c7ef5257897db3402d2232bd3fd994e60576f402a2dd15f1dc6e30", func := "loop.example/g01311/laws.FnExactPinsByTrack", spec := "fnExactPinsByTrack", unfollowed := true, recurses := true, apart := false }
def FnExactPinsByTrackSaid : Prop := fnExactPinsByTrackRow.holds Try.pinned (OpenSpec.ofChange fnExactPinsByTrackSpec)

/-- ITS FALSE NEIGHBOUR: 'it returns false'. Refute it at one input. -/
def fnExactPinsByTrackWrong : ChangeSpec := { name := "fnExactPinsByTrack", fn := fun _ => fun
  | [d1, d2] => { results := [.lit (.bool false)], args := [d1, d2] }
  | _ => none }
def FnExactPinsByTrackWrongFalsely : Prop := fnExactPinsByTrackRow.holds Try.pinned (OpenSpec.ofChange fnExactPinsByTrackWrong)

/-- 'laws.FnExactFirstClash': WHATEVER THE INPUT: true; the input reads as it did. -/
def fnExactFirstClashSpec : ChangeSpec := { name := "fnExactFirstClash", fn := fun _ => fun
  | [d1, d2] => { results := [.lit (.bool true)], args := [d1, d2] }
  | _ => none }
def fnExactFirstClashRow : OpenClaim := { program := "ytehmadgmhknfhaa", sum := "1c7bed1389c7ef5257897db3402d2232bd3fd994e60576f402a2dd15f1dc6e30", func := "loop.example/g01311/laws.FnExactFirstClash", spec := "fnExactFirstClash", unfollowed := true, recurses := true, apart := false }
def FnExactFirstClashSaid : Prop := fnExactFirstClashRow.holds Try.pinned (OpenSpec.ofChange fnExactFirstClashSpec)

/-- ITS FALSE NEIGHBOUR: 'it returns false'. Refute it at one input. -/
def fnExactFirstClashWrong : ChangeSpec := { name := "fnExactFirstClash", fn := fun _ => fun
  | [d1, d2] => { results := [.lit (.bool false)], args := [d1, d2] }
  | _ => none }
def FnExactFirstClashWrongFalsely : Prop := fnExactFirstClashRow.holds Try.pinned (OpenSpec.ofChange fnExactFirstClashWrong)

/-- 'laws.FnExactSwapTracks': WHATEVER THE INPUT: true; the input reads as it did. -/
def fnExactSwapTracksSpec : ChangeSpec := { name := "fnExactSwapTracks", fn := fun _ => fun
  | [d1, d2, d3, d4] => { results := [.lit (.bool true)], args := [d1, d2, d3, d4] }
  | _ => none }
def fnExactSwapTracksRow : OpenClaim := { program := "ytehmadgmhknfhaa", sum := "1c7bed1389c7ef5257897db3402d2232bd3fd994e60576f402a2dd15f1dc6e30", func := "loop.example/g01311/laws.FnExactSwapTracks", spec := "fnExactSwapTracks", unfollowed := true, recurses := true, apart := false }
def FnExactSwapTracksSaid : Prop := fnExactSwapTracksRow.holds Try.pinned (OpenSpec.ofChange fnExactSwapTracksSpec)

/-- ITS FALSE NEIGHBOUR: 'it returns false'. Refute it at one input. -/
def fnExactSwapTracksWrong : ChangeSpec := { name := "fnExactSwapTracks", fn := fun _ => fun
  | [d1, d2, d3, d4] => { results := [.lit (.bool false)], args := [d1, d2, d3, d4] }
  | _ => none }
def FnExactSwapTracksWrongFalsely : Prop := fnExactSwapTracksRow.holds Try.pinned (OpenSpec.ofChange fnExactSwapTracksWrong)

/-- 'laws.FnExactFreePlaces': WHATEVER THE INPUT: true; the input reads as it did. -/
def fnExactFreePlacesSpec : ChangeSpec := { name := "fnExactFreePlaces", fn := fun _ => fun
  | [d1, d2, d3] => { results := [.lit (.bool true)], args := [d1, d2, d3] }
  | _ => none }
def fnExactFreePlacesRow : OpenClaim := { program := "ytehmadgmhknfhaa", sum := "1c7bed1389c7ef5257897db3402d2232bd3fd994e60576f402a2dd15f1dc6e30", func := "loop.example/g01311/laws.FnExactFreePlaces", spec := "fnExactFreePlaces", unfollowed := true, recurses := true, apart := false }
def FnExactFreePlacesSaid : Prop := fnExactFreePlacesRow.holds Try.pinned (OpenSpec.ofChange fnExactFreePlacesSpec)

/-- ITS FALSE NEIGHBOUR: 'it returns false'. Refute it at one input. -/
def fnExactFreePlacesWrong : ChangeSpec := { name := "fnExactFreePlaces", fn := fun _ => fun
  | [d1, d2, d3] => { results := [.lit (.bool false)], args := [d1, d2, d3] }
  | _ => none }
def FnExactFreePlacesWrongFalsely : Prop := fnExactFreePlacesRow.holds Try.pinned (OpenSpec.ofChange fnExactFreePlacesWrong)

/-- 'laws.FnExactDrumPicture': WHATEVER THE INPUT: true; the input reads as it did. -/
def fnExactDrumPictureSpec : ChangeSpec := { name := "fnExactDrumPicture", fn := fun _ => fun
  | [d1, d2] => { results := [.lit (.bool true)], args := [d1, d2] }
  | _ => none }
def fnExactDrumPictureRow : OpenClaim := { program := "ytehmadgmhknfhaa", sum := "1c7bed1389c7ef5257897db3402d2232bd3fd994e60576f402a2dd15f1dc6e30", func := "loop.example/g01311/laws.FnExactDrumPicture", spec := "fnExactDrumPicture", unfollowed := true, recurses := true, apart := false }
def FnExactDrumPictureSaid : Prop := fnExactDrumPictureRow.holds Try.pinned (OpenSpec.ofChange fnExactDrumPictureSpec)

/-- ITS FALSE NEIGHBOUR: 'it returns false'. Refute it at one input. -/
def fnExactDrumPictureWrong : ChangeSpec := { name := "fnExactDrumPicture", fn := fun _ => fun
  | [d1, d2] => { results := [.lit (.bool false)], args := [d1, d2] }
  | _ => none }
def FnExactDrumPictureWrongFalsely : Prop := fnExactDrumPictureRow.holds Try.pinned (OpenSpec.ofChange fnExactDrumPictureWrong)

/-- 'laws.FnExactClashesOf': WHATEVER THE INPUT: true; the input reads as it did. -/
def fnExactClashesOfSpec : ChangeSpec := { name := "fnExactClashesOf", fn := fun _ => fun
  | [d1, d2] => { results := [.lit (.bool true)], args := [d1, d2] }
  | _ => none }
def fnExactClashesOfRow : OpenClaim := { program := "ytehmadgmhknfhaa", sum := "1c7bed1389c7ef5257897db3402d2232bd3fd994e60576f402a2dd15f1dc6e30", func := "loop.example/g01311/laws.FnExactClashesOf", spec := "fnExactClashesOf", unfollowed := true, recurses := true, apart := false }
def FnExactClashesOfSaid : Prop := fnExactClashesOfRow.holds Try.pinned (OpenSpec.ofChange fnExactClashesOfSpec)

/-- ITS FALSE NEIGHBOUR: 'it returns false'. Refute it at one input. -/
def fnExactClashesOfWrong : ChangeSpec := { name := "fnExactClashesOf", fn := fun _ => fun
  | [d1, d2] => { results := [.lit (.bool false)], args := [d1, d2] }
  | _ => none }
def FnExactClashesOfWrongFalsely : Prop := fnExactClashesOfRow.holds Try.pinned (OpenSpec.ofChange fnExactClashesOfWrong)

/-- 'laws.FnExactFreeTracks': WHATEVER THE INPUT: true; the input reads as it did. -/
def fnExactFreeTracksSpec : ChangeSpec := { name := "fnExactFreeTracks", fn := fun _ => fun
  | [d1, d2, d3, d4] => { results := [.lit (.bool true)], args := [d1, d2, d3, d4] }
  | _ => none }
def fnExactFreeTracksRow : OpenClaim := { program := "ytehmadgmhknfhaa", sum := "1c7bed1389c7ef5257897db3402d2232bd3fd994e60576f402a2dd15f1dc6e30", func := "loop.example/g01311/laws.FnExactFreeTracks", spec := "fnExactFreeTracks", unfollowed := true, recurses := true, apart := false }
def FnExactFreeTracksSaid : Prop := fnExactFreeTracksRow.holds Try.pinned (OpenSpec.ofChange fnExactFreeTracksSpec)

/-- ITS FALSE NEIGHBOUR: 'it returns false'. Refute it at one input. -/
def fnExactFreeTracksWrong : ChangeSpec := { name := "fnExactFreeTracks", fn := fun _ => fun
  | [d1, d2, d3, d4] => { results := [.lit (.bool false)], args := [d1, d2, d3, d4] }
  | _ => none }
def FnExactFreeTracksWrongFalsely : Prop := fnExactFreeTracksRow.holds Try.pinned (OpenSpec.ofChange fnExactFreeTracksWrong)

/- THE SECOND FORM. 'bulk': how many values and letters a reading holds, each counted each time it is reached (what is shared counts as often as it is met; a slice's spare places count too). A statement '..UptoSaid' is the law's where the arguments, and the package variables that the reading takes, are together of bulk at most 1048576: NARROWER than '..Said'. Prove '..Said' where nothing that the law and all that it calls make is longer than what came in: it says more and counts as full. Else prove '..UptoSaid'. A law counts once. -/
mutual
def uptoBulk {H : Type} : DataW H → Nat
  | .lit (.string bytes) => bytes.length + 1
  | .lit _ => 1
  | .nil => 1
  | .ptr d => uptoBulk d + 1
  | .slice elems spare => uptoBulkAll elems + uptoBulkAll spare + 1
  | .agg parts => uptoBulkAll parts + 1
  | .iface _ d => uptoBulk d + 1
  | .map entries => uptoBulkEntries entries + 1
  | .held _ => 1
def uptoBulkAll {H : Type} : List (DataW H) → Nat
  | [] => 0
  | d :: r => uptoBulk d + uptoBulkAll r
def uptoBulkEntries {H : Type} : List (Lit × DataW H) → Nat
  | [] => 0
  | x :: r => uptoBulkEntry x + uptoBulkEntries r
def uptoBulkEntry {H : Type} : Lit × DataW H → Nat
  | (.string bytes, d) => bytes.length + uptoBulk d + 1
  | (_, d) => uptoBulk d + 1
 end
def uptoSmall : (H : Type) → List (DataW H) → Bool := fun _ ds => decide (uptoBulkAll ds ≤ 1048576)
def OpenSpec.upto (s : _root_.Go.ChangeSpec) : _root_.Go.OpenSpec := { _root_.Go.OpenSpec.ofChange s with cond := some uptoSmall }

/-- 'laws.FnExactIsPlayable', WHERE WHAT IT READS IS OF BULK AT MOST 1048576: true; the input reads as it did. -/
def fnExactIsPlayableUptoRow : OpenClaim := { program := "ytehmadgmhknfhaa", sum := "1c7bed1389c7ef5257897db3402d2232bd3fd994e60576f402a2dd15f1dc6e30", func := "loop.example/g01311/laws.FnExactIsPlayable", spec := "fnExactIsPlayable", unfollowed := true, recurses := true, apart := false, narrowed := true }
def FnExactIsPlayableUptoSaid : Prop := fnExactIsPlayableUptoRow.holds Try.pinned (OpenSpec.upto fnExactIsPlayableSpec)

/-- 'laws.FnExactPinsByTrack', WHERE WHAT IT READS IS OF BULK AT MOST 1048576: true; the input reads as it did. -/
def fnExactPinsByTrackUptoRow : OpenClaim := { program := "ytehmadgmhknfhaa", sum := "1c7bed1389c7ef5257897db3402d2232bd3fd994e60576f402a2dd15f1dc6e30", func := "loop.example/g01311/laws.FnExactPinsByTrack", spec := "fnExactPinsByTrack", unfollowed := true, recurses := true, apart := false, narrowed := true }
def FnExactPinsByTrackUptoSaid : Prop := fnExactPinsByTrackUptoRow.holds Try.pinned (OpenSpec.upto fnExactPinsByTrackSpec)

/-- 'laws.FnExactFirstClash', WHERE WHAT IT READS IS OF BULK AT MOST 1048576: true; the input reads as it did. -/
def fnExactFirstClashUptoRow : OpenClaim := { program := "ytehmadgmhknfhaa", sum := "1c7bed1389c7ef5257897db3402d2232bd3fd994e60576f402a2dd15f1dc6e30", func := "loop.example/g01311/laws.FnExactFirstClash", spec := "fnExactFirstClash", unfollowed := true, recurses := true, apart := false, narrowed := true }
def FnExactFirstClashUptoSaid : Prop := fnExactFirstClashUptoRow.holds Try.pinned (OpenSpec.upto fnExactFirstClashSpec)

/-- 'laws.FnExactSwapTracks', WHERE WHAT IT READS IS OF BULK AT MOST 1048576: true; the input reads as it did. -/
def fnExactSwapTracksUptoRow : OpenClaim := { program := "ytehmadgmhknfhaa", sum := "1c7bed1389c7ef5257897db3402d2232bd3fd994e60576f402a2dd15f1dc6e30", func := "loop.example/g01311/laws.FnExactSwapTracks", spec := "fnExactSwapTracks", unfollowed := true, recurses := true, apart := false, narrowed := true }
def FnExactSwapTracksUptoSaid : Prop := fnExactSwapTracksUptoRow.holds Try.pinned (OpenSpec.upto fnExactSwapTracksSpec)

/-- 'laws.FnExactFreePlaces', WHERE WHAT IT READS IS OF BULK AT MOST 1048576: true; the input reads as it did. -/
def fnExactFreePlacesUptoRow : OpenClaim := { program := "ytehmadgmhknfhaa", sum := "1c7bed1389c7ef5257897db3402d2232bd3fd994e60576f402a2dd15f1dc6e30", func := "loop.example/g01311/laws.FnExactFreePlaces", spec := "fnExactFreePlaces", unfollowed := true, recurses := true, apart := false, narrowed := true }
def FnExactFreePlacesUptoSaid : Prop := fnExactFreePlacesUptoRow.holds Try.pinned (OpenSpec.upto fnExactFreePlacesSpec)

/-- 'laws.FnExactDrumPicture', WHERE WHAT IT READS IS OF BULK AT MOST 1048576: true; the input reads as it did. -/
def fnExactDrumPictureUptoRow : OpenClaim := { program := "ytehmadgmhknfhaa", sum := "1c7bed1389c7ef5257897db3402d2232bd3fd994e60576f402a2dd15f1dc6e30", func := "loop.example/g01311/laws.FnExactDrumPicture", spec := "fnExactDrumPicture", unfollowed := true, recurses := true, apart := false, narrowed := true }
def FnExactDrumPictureUptoSaid : Prop := fnExactDrumPictureUptoRow.holds Try.pinned (OpenSpec.upto fnExactDrumPictureSpec)

/-- 'laws.FnExactClashesOf', WHERE WHAT IT READS IS OF BULK AT MOST 1048576: true; the input reads as it did. -/
def fnExactClashesOfUptoRow : OpenClaim := { program := "ytehmadgmhknfhaa", sum := "1c7bed1389c7ef5257897db3402d2232bd3fd994e60576f402a2dd15f1dc6e30", func := "loop.example/g01311/laws.FnExactClashesOf", spec := "fnExactClashesOf", unfollowed := true, recurses := true, apart := false, narrowed := true }
def FnExactClashesOfUptoSaid : Prop := fnExactClashesOfUptoRow.holds Try.pinned (OpenSpec.upto fnExactClashesOfSpec)

/-- 'laws.FnExactFreeTracks', WHERE WHAT IT READS IS OF BULK AT MOST 1048576: true; the input reads as it did. -/
def fnExactFreeTracksUptoRow : OpenClaim := { program := "ytehmadgmhknfhaa", sum := "1c7bed1389c7ef5257897db3402d2232bd3fd994e60576f402a2dd15f1dc6e30", func := "loop.example/g01311/laws.FnExactFreeTracks", spec := "fnExactFreeTracks", unfollowed := true, recurses := true, apart := false, narrowed := true }
def FnExactFreeTracksUptoSaid : Prop := fnExactFreeTracksUptoRow.holds Try.pinned (OpenSpec.upto fnExactFreeTracksSpec)

end Rows
end Go.Proofs.Ytehmadgmhknfhaa
