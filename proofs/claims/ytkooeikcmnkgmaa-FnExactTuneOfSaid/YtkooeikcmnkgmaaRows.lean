/-
  No cell of these rows narrows 'for every input' (looked for: loops, veiled, ifaces, maps, wideKeys, modest, calm, conditions, laid).
  DERIVED. THE GIVEN ROWS OF THIS SEAT. 7 by the template 'for every input the law returns true; each argument reads behind the call as it read before'; 0 by the template 'total and deterministic' (their statements: YtkooeikcmnkgmaaTotals.lean).
  GIVEN WITH THE SEED: the statements are not yours to turn. If you find one false, say at which input.
  Laid BY PROGRAM, IN A SANDBOX (cutbox-rows.mjs): the forced cells as the released guide's own fill.sh prints them over the translation 7d4718b990b8451c… (all of the seat's roots in one cut). By AI agents, Wed Nov 11 2026. No macro, syntax, notation, axiom, sorry.
-/
import Derived.Test.YtkooeikcmnkgmaaChecked
import GoSem.Claim
import GoSem.ClaimJoined
import GoSem.ClaimMapViews
import Derived.JoinedTies
import Derived.KernelRfl
namespace Go.Proofs.Ytkooeikcmnkgmaa
/- THE CELL 'sum', in the pinned program and in every row, IS THE sha256 OF THE DUMP (.gsa) THAT YtkooeikcmnkgmaaProg.lean LOADS. Nothing in Lean hashes anything: it is a label: what it is worth is what the hold of that sum in a sandbox is worth. -/
noncomputable def Try.pinned : Pinned := { name := "ytkooeikcmnkgmaa", sum := "7d4718b990b8451c611583eac4adb2a333ca37ace4db5972b51d76658c4e87c4", checked := Try.checked }
namespace Rows
def none {H : Type} : Left H := { results := [], args := [] }

/-- 'laws.FnExactMakeTune': WHATEVER THE INPUT: true; the input reads as it did. -/
def fnExactMakeTuneSpec : ChangeSpec := { name := "fnExactMakeTune", fn := fun _ => fun
  | [d] => { results := [.lit (.bool true)], args := [d] }
  | _ => none }
def fnExactMakeTuneRow : OpenClaim := { program := "ytkooeikcmnkgmaa", sum := "7d4718b990b8451c611583eac4adb2a333ca37ace4db5972b51d76658c4e87c4", func := "loop.example/g01311/laws.FnExactMakeTune", spec := "fnExactMakeTune", unfollowed := true, recurses := true, apart := false }
def FnExactMakeTuneSaid : Prop := fnExactMakeTuneRow.holds Try.pinned (OpenSpec.ofChange fnExactMakeTuneSpec)

/-- ITS FALSE NEIGHBOUR: 'it returns false'. Refute it at one input. -/
def fnExactMakeTuneWrong : ChangeSpec := { name := "fnExactMakeTune", fn := fun _ => fun
  | [d] => { results := [.lit (.bool false)], args := [d] }
  | _ => none }
def FnExactMakeTuneWrongFalsely : Prop := fnExactMakeTuneRow.holds Try.pinned (OpenSpec.ofChange fnExactMakeTuneWrong)

/-- 'laws.FnExactBackward': WHATEVER THE INPUT: true; the input reads as it did. -/
def fnExactBackwardSpec : ChangeSpec := { name := "fnExactBackward", fn := fun _ => fun
  | [d] => { results := [.lit (.bool true)], args := [d] }
  | _ => none }
def fnExactBackwardRow : OpenClaim := { program := "ytkooeikcmnkgmaa", sum := "7d4718b990b8451c611583eac4adb2a333ca37ace4db5972b51d76658c4e87c4", func := "loop.example/g01311/laws.FnExactBackward", spec := "fnExactBackward", unfollowed := true, recurses := true, apart := false }
def FnExactBackwardSaid : Prop := fnExactBackwardRow.holds Try.pinned (OpenSpec.ofChange fnExactBackwardSpec)

/-- ITS FALSE NEIGHBOUR: 'it returns false'. Refute it at one input. -/
def fnExactBackwardWrong : ChangeSpec := { name := "fnExactBackward", fn := fun _ => fun
  | [d] => { results := [.lit (.bool false)], args := [d] }
  | _ => none }
def FnExactBackwardWrongFalsely : Prop := fnExactBackwardRow.holds Try.pinned (OpenSpec.ofChange fnExactBackwardWrong)

/-- 'laws.FnExactInverted': WHATEVER THE INPUT: true; the input reads as it did. -/
def fnExactInvertedSpec : ChangeSpec := { name := "fnExactInverted", fn := fun _ => fun
  | [d1, d2] => { results := [.lit (.bool true)], args := [d1, d2] }
  | _ => none }
def fnExactInvertedRow : OpenClaim := { program := "ytkooeikcmnkgmaa", sum := "7d4718b990b8451c611583eac4adb2a333ca37ace4db5972b51d76658c4e87c4", func := "loop.example/g01311/laws.FnExactInverted", spec := "fnExactInverted", unfollowed := true, recurses := true, apart := false }
def FnExactInvertedSaid : Prop := fnExactInvertedRow.holds Try.pinned (OpenSpec.ofChange fnExactInvertedSpec)

/-- ITS FALSE NEIGHBOUR: 'it returns false'. Refute it at one input. -/
def fnExactInvertedWrong : ChangeSpec := { name := "fnExactInverted", fn := fun _ => fun
  | [d1, d2] => { results := [.lit (.bool false)], args := [d1, d2] }
  | _ => none }
def FnExactInvertedWrongFalsely : Prop := fnExactInvertedRow.holds Try.pinned (OpenSpec.ofChange fnExactInvertedWrong)

/-- 'laws.FnExactTogether': WHATEVER THE INPUT: true; the input reads as it did. -/
def fnExactTogetherSpec : ChangeSpec := { name := "fnExactTogether", fn := fun _ => fun
  | [d1, d2] => { results := [.lit (.bool true)], args := [d1, d2] }
  | _ => none }
def fnExactTogetherRow : OpenClaim := { program := "ytkooeikcmnkgmaa", sum := "7d4718b990b8451c611583eac4adb2a333ca37ace4db5972b51d76658c4e87c4", func := "loop.example/g01311/laws.FnExactTogether", spec := "fnExactTogether", unfollowed := true, recurses := true, apart := false }
def FnExactTogetherSaid : Prop := fnExactTogetherRow.holds Try.pinned (OpenSpec.ofChange fnExactTogetherSpec)

/-- ITS FALSE NEIGHBOUR: 'it returns false'. Refute it at one input. -/
def fnExactTogetherWrong : ChangeSpec := { name := "fnExactTogether", fn := fun _ => fun
  | [d1, d2] => { results := [.lit (.bool false)], args := [d1, d2] }
  | _ => none }
def FnExactTogetherWrongFalsely : Prop := fnExactTogetherRow.holds Try.pinned (OpenSpec.ofChange fnExactTogetherWrong)

/-- 'laws.FnExactCanonOf': WHATEVER THE INPUT: true; the input reads as it did. -/
def fnExactCanonOfSpec : ChangeSpec := { name := "fnExactCanonOf", fn := fun _ => fun
  | [d1, d2, d3, d4] => { results := [.lit (.bool true)], args := [d1, d2, d3, d4] }
  | _ => none }
def fnExactCanonOfRow : OpenClaim := { program := "ytkooeikcmnkgmaa", sum := "7d4718b990b8451c611583eac4adb2a333ca37ace4db5972b51d76658c4e87c4", func := "loop.example/g01311/laws.FnExactCanonOf", spec := "fnExactCanonOf", unfollowed := true, recurses := true, apart := false }
def FnExactCanonOfSaid : Prop := fnExactCanonOfRow.holds Try.pinned (OpenSpec.ofChange fnExactCanonOfSpec)

/-- ITS FALSE NEIGHBOUR: 'it returns false'. Refute it at one input. -/
def fnExactCanonOfWrong : ChangeSpec := { name := "fnExactCanonOf", fn := fun _ => fun
  | [d1, d2, d3, d4] => { results := [.lit (.bool false)], args := [d1, d2, d3, d4] }
  | _ => none }
def FnExactCanonOfWrongFalsely : Prop := fnExactCanonOfRow.holds Try.pinned (OpenSpec.ofChange fnExactCanonOfWrong)

/-- 'laws.FnExactJoinTunes': WHATEVER THE INPUT: true; the input reads as it did. -/
def fnExactJoinTunesSpec : ChangeSpec := { name := "fnExactJoinTunes", fn := fun _ => fun
  | [d1, d2] => { results := [.lit (.bool true)], args := [d1, d2] }
  | _ => none }
def fnExactJoinTunesRow : OpenClaim := { program := "ytkooeikcmnkgmaa", sum := "7d4718b990b8451c611583eac4adb2a333ca37ace4db5972b51d76658c4e87c4", func := "loop.example/g01311/laws.FnExactJoinTunes", spec := "fnExactJoinTunes", unfollowed := true, recurses := true, apart := false }
def FnExactJoinTunesSaid : Prop := fnExactJoinTunesRow.holds Try.pinned (OpenSpec.ofChange fnExactJoinTunesSpec)

/-- ITS FALSE NEIGHBOUR: 'it returns false'. Refute it at one input. -/
def fnExactJoinTunesWrong : ChangeSpec := { name := "fnExactJoinTunes", fn := fun _ => fun
  | [d1, d2] => { results := [.lit (.bool false)], args := [d1, d2] }
  | _ => none }
def FnExactJoinTunesWrongFalsely : Prop := fnExactJoinTunesRow.holds Try.pinned (OpenSpec.ofChange fnExactJoinTunesWrong)

/-- 'laws.FnExactTuneOf': WHATEVER THE INPUT: true; the input reads as it did. -/
def fnExactTuneOfSpec : ChangeSpec := { name := "fnExactTuneOf", fn := fun _ => fun
  | [d1, d2] => { results := [.lit (.bool true)], args := [d1, d2] }
  | _ => none }
def fnExactTuneOfRow : OpenClaim := { program := "ytkooeikcmnkgmaa", sum := "7d4718b990b8451c611583eac4adb2a333ca37ace4db5972b51d76658c4e87c4", func := "loop.example/g01311/laws.FnExactTuneOf", spec := "fnExactTuneOf", unfollowed := true, recurses := true, apart := false }
def FnExactTuneOfSaid : Prop := fnExactTuneOfRow.holds Try.pinned (OpenSpec.ofChange fnExactTuneOfSpec)

/-- ITS FALSE NEIGHBOUR: 'it returns false'. Refute it at one input. -/
def fnExactTuneOfWrong : ChangeSpec := { name := "fnExactTuneOf", fn := fun _ => fun
  | [d1, d2] => { results := [.lit (.bool false)], args := [d1, d2] }
  | _ => none }
def FnExactTuneOfWrongFalsely : Prop := fnExactTuneOfRow.holds Try.pinned (OpenSpec.ofChange fnExactTuneOfWrong)

/- THE SECOND FORM. 'bulk': how many values and letters a reading holds, each counted each time it is reached (what is shared counts as often as it is met; a slice's spare places count too). A statement '..UptoSaid' is the law's where the arguments, and the package variables that the reading takes, are together of bulk at most 1048576: NARROWER than '..Said'. Prove '..Said' where nothing that the law and all that it calls make is longer than what came in: it says more and counts as full. Else prove '..UptoSaid'. A law counts once. -/
mutual
def uptoBulk {H : Type} : DataW H → Nat
  | .lit (.string bytes) => bytes.length + 1
  | .lit _ => 1
  | .nil => 1
  | .ptr d => uptoBulk d + 1
  | .slice elems spare => uptoBulkAll elems + uptoBulkAll spare + 1
  | .agg parts => uptoBulkAll parts + 1
  | .iface _ d => uptoBulk d + 1
  | .map entries => uptoBulkEntries entries + 1
  | .held _ => 1
def uptoBulkAll {H : Type} : List (DataW H) → Nat
  | [] => 0
  | d :: r => uptoBulk d + uptoBulkAll r
def uptoBulkEntries {H : Type} : List (Lit × DataW H) → Nat
  | [] => 0
  | x :: r => uptoBulkEntry x + uptoBulkEntries r
def uptoBulkEntry {H : Type} : Lit × DataW H → Nat
  | (.string bytes, d) => bytes.length + uptoBulk d + 1
  | (_, d) => uptoBulk d + 1
 end
def uptoSmall : (H : Type) → List (DataW H) → Bool := fun _ ds => decide (uptoBulkAll ds ≤ 1048576)
def OpenSpec.upto (s : _root_.Go.ChangeSpec) : _root_.Go.OpenSpec := { _root_.Go.OpenSpec.ofChange s with cond := some uptoSmall }

/-- 'laws.FnExactMakeTune', WHERE WHAT IT READS IS OF BULK AT MOST 1048576: true; the input reads as it did. -/
def fnExactMakeTuneUptoRow : OpenClaim := { program := "ytkooeikcmnkgmaa", sum := "7d4718b990b8451c611583eac4adb2a333ca37ace4db5972b51d76658c4e87c4", func := "loop.example/g01311/laws.FnExactMakeTune", spec := "fnExactMakeTune", unfollowed := true, recurses := true, apart := false, narrowed := true }
def FnExactMakeTuneUptoSaid : Prop := fnExactMakeTuneUptoRow.holds Try.pinned (OpenSpec.upto fnExactMakeTuneSpec)

/-- 'laws.FnExactBackward', WHERE WHAT IT READS IS OF BULK AT MOST 1048576: true; the input reads as it did. -/
def fnExactBackwardUptoRow : OpenClaim := { program := "ytkooeikcmnkgmaa", sum := "7d4718b990b8451c611583eac4adb2a333ca37ace4db5972b51d76658c4e87c4", func := "loop.example/g01311/laws.FnExactBackward", spec := "fnExactBackward", unfollowed := true, recurses := true, apart := false, narrowed := true }
def FnExactBackwardUptoSaid : Prop := fnExactBackwardUptoRow.holds Try.pinned (OpenSpec.upto fnExactBackwardSpec)

/-- 'laws.FnExactInverted', WHERE WHAT IT READS IS OF BULK AT MOST 1048576: true; the input reads as it did. -/
def fnExactInvertedUptoRow : OpenClaim := { program := "ytkooeikcmnkgmaa", sum := "7d4718b990b8451c611583eac4adb2a333ca37ace4db5972b51d76658c4e87c4", func := "loop.example/g01311/laws.FnExactInverted", spec := "fnExactInverted", unfollowed := true, recurses := true, apart := false, narrowed := true }
def FnExactInvertedUptoSaid : Prop := fnExactInvertedUptoRow.holds Try.pinned (OpenSpec.upto fnExactInvertedSpec)

/-- 'laws.FnExactTogether', WHERE WHAT IT READS IS OF BULK AT MOST 1048576: true; the input reads as it did. -/
def fnExactTogetherUptoRow : OpenClaim := { program := "ytkooeikcmnkgmaa", sum := "7d4718b990b8451c611583eac4adb2a333ca37ace4db5972b51d76658c4e87c4", func := "loop.example/g01311/laws.FnExactTogether", spec := "fnExactTogether", unfollowed := true, recurses := true, apart := false, narrowed := true }
def FnExactTogetherUptoSaid : Prop := fnExactTogetherUptoRow.holds Try.pinned (OpenSpec.upto fnExactTogetherSpec)

/-- 'laws.FnExactCanonOf', WHERE WHAT IT READS IS OF BULK AT MOST 1048576: true; the input reads as it did. -/
def fnExactCanonOfUptoRow : OpenClaim := { program := "ytkooeikcmnkgmaa", sum := "7d4718b990b8451c611583eac4adb2a333ca37ace4db5972b51d76658c4e87c4", func := "loop.example/g01311/laws.FnExactCanonOf", spec := "fnExactCanonOf", unfollowed := true, recurses := true, apart := false, narrowed := true }
def FnExactCanonOfUptoSaid : Prop := fnExactCanonOfUptoRow.holds Try.pinned (OpenSpec.upto fnExactCanonOfSpec)

/-- 'laws.FnExactJoinTunes', WHERE WHAT IT READS IS OF BULK AT MOST 1048576: true; the input reads as it did. -/
def fnExactJoinTunesUptoRow : OpenClaim := { program := "ytkooeikcmnkgmaa", sum := "7d4718b990b8451c611583eac4adb2a333ca37ace4db5972b51d76658c4e87c4", func := "loop.example/g01311/laws.FnExactJoinTunes", spec := "fnExactJoinTunes", unfollowed := true, recurses := true, apart := false, narrowed := true }
def FnExactJoinTunesUptoSaid : Prop := fnExactJoinTunesUptoRow.holds Try.pinned (OpenSpec.upto fnExactJoinTunesSpec)

/-- 'laws.FnExactTuneOf', WHERE WHAT IT READS IS OF BULK AT MOST 1048576: true; the input reads as it did. -/
def fnExactTuneOfUptoRow : OpenClaim := { program := "ytkooeikcmnkgmaa", sum := "7d4718b990b8451c611583eac4adb2a333ca37ace4db5972b51d76658c4e87c4", func := "loop.example/g01311/laws.FnExactTuneOf", spec := "fnExactTuneOf", unfollowed := true, recurses := true, apart := false, narrowed := true }
def FnExactTuneOfUptoSaid : Prop := fnExactTuneOfUptoRow.holds Try.pinned (OpenSpec.upto fnExactTuneOfSpec)

end Rows
end Go.Proofs.Ytkooeikcmnkgmaa
