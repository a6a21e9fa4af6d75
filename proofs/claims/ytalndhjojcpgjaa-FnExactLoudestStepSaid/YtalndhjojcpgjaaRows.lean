/-
  No cell of these rows narrows 'for every input' (looked for: loops, veiled, ifaces, maps, wideKeys, modest, calm, conditions, laid).
  DERIVED. THE GIVEN ROWS OF THIS SEAT. 4 by the template 'for every input the law returns true; each argument reads behind the call as it read before'; 0 by the template 'total and deterministic' (their statements: YtalndhjojcpgjaaTotals.lean).
  GIVEN WITH THE SEED: the statements are not yours to turn. If you find one false, say at which input.
  Laid BY PROGRAM, IN A SANDBOX (cutbox-rows.mjs): the forced cells as the released guide's own fill.sh prints them over the translation a73b266b8ed08ba8… (all of the seat's roots in one cut). By AI agents, Wed Nov 11 2026. No macro, syntax, notation, axiom, sorry.
-/
import Derived.Test.YtalndhjojcpgjaaChecked
import GoSem.Claim
import GoSem.ClaimJoined
import GoSem.ClaimMapViews
import Derived.JoinedTies
import Derived.KernelRfl
namespace Go.Proofs.Ytalndhjojcpgjaa
/- THE CELL 'sum', in the pinned program and in every row, IS THE sha256 OF THE DUMP (.gsa) THAT YtalndhjojcpgjaaProg.lean LOADS. Nothing in Lean hashes anything: it is a label: what it is worth is what the hold of that sum in a sandbox is worth. -/
noncomputable def Try.pinned : Pinned := { name := "ytalndhjojcpgjaa", sum := "a73b266b8ed08ba8e35ad1337ec9ca684ae7b4646965d692370389c7c099bbc6", checked := Try.checked }
namespace Rows
def none {H : Type} : Left H := { results := [], args := [] }

/-- 'laws.FnExactLoudestStep': WHATEVER THE INPUT: true; the input reads as it did. -/
def fnExactLoudestStepSpec : ChangeSpec := { name := "fnExactLoudestStep", fn := fun _ => fun
  | [d] => { results := [.lit (.bool true)], args := [d] }
  | _ => none }
def fnExactLoudestStepRow : OpenClaim := { program := "ytalndhjojcpgjaa", sum := "a73b266b8ed08ba8e35ad1337ec9ca684ae7b4646965d692370389c7c099bbc6", func := "loop.example/g01311/laws.FnExactLoudestStep", spec := "fnExactLoudestStep", unfollowed := true, recurses := true, apart := false }
def FnExactLoudestStepSaid : Prop := fnExactLoudestStepRow.holds Try.pinned (OpenSpec.ofChange fnExactLoudestStepSpec)

/-- ITS FALSE NEIGHBOUR: 'it returns false'. Refute it at one input. -/
def fnExactLoudestStepWrong : ChangeSpec := { name := "fnExactLoudestStep", fn := fun _ => fun
  | [d] => { results := [.lit (.bool false)], args := [d] }
  | _ => none }
def FnExactLoudestStepWrongFalsely : Prop := fnExactLoudestStepRow.holds Try.pinned (OpenSpec.ofChange fnExactLoudestStepWrong)

/-- 'laws.FnExactBestShift': WHATEVER THE INPUT: true; the input reads as it did. -/
def fnExactBestShiftSpec : ChangeSpec := { name := "fnExactBestShift", fn := fun _ => fun
  | [d1, d2] => { results := [.lit (.bool true)], args := [d1, d2] }
  | _ => none }
def fnExactBestShiftRow : OpenClaim := { program := "ytalndhjojcpgjaa", sum := "a73b266b8ed08ba8e35ad1337ec9ca684ae7b4646965d692370389c7c099bbc6", func := "loop.example/g01311/laws.FnExactBestShift", spec := "fnExactBestShift", unfollowed := true, recurses := true, apart := false }
def FnExactBestShiftSaid : Prop := fnExactBestShiftRow.holds Try.pinned (OpenSpec.ofChange fnExactBestShiftSpec)

/-- ITS FALSE NEIGHBOUR: 'it returns false'. Refute it at one input. -/
def fnExactBestShiftWrong : ChangeSpec := { name := "fnExactBestShift", fn := fun _ => fun
  | [d1, d2] => { results := [.lit (.bool false)], args := [d1, d2] }
  | _ => none }
def FnExactBestShiftWrongFalsely : Prop := fnExactBestShiftRow.holds Try.pinned (OpenSpec.ofChange fnExactBestShiftWrong)

/-- 'laws.FnExactJoinTunes': WHATEVER THE INPUT: true; the input reads as it did. -/
def fnExactJoinTunesSpec : ChangeSpec := { name := "fnExactJoinTunes", fn := fun _ => fun
  | [d1, d2] => { results := [.lit (.bool true)], args := [d1, d2] }
  | _ => none }
def fnExactJoinTunesRow : OpenClaim := { program := "ytalndhjojcpgjaa", sum := "a73b266b8ed08ba8e35ad1337ec9ca684ae7b4646965d692370389c7c099bbc6", func := "loop.example/g01311/laws.FnExactJoinTunes", spec := "fnExactJoinTunes", unfollowed := true, recurses := true, apart := false }
def FnExactJoinTunesSaid : Prop := fnExactJoinTunesRow.holds Try.pinned (OpenSpec.ofChange fnExactJoinTunesSpec)

/-- ITS FALSE NEIGHBOUR: 'it returns false'. Refute it at one input. -/
def fnExactJoinTunesWrong : ChangeSpec := { name := "fnExactJoinTunes", fn := fun _ => fun
  | [d1, d2] => { results := [.lit (.bool false)], args := [d1, d2] }
  | _ => none }
def FnExactJoinTunesWrongFalsely : Prop := fnExactJoinTunesRow.holds Try.pinned (OpenSpec.ofChange fnExactJoinTunesWrong)

/-- 'laws.FnExactLeastGap': WHATEVER THE INPUT: true; the input reads as it did. -/
def fnExactLeastGapSpec : ChangeSpec := { name := "fnExactLeastGap", fn := fun _ => fun
  | [d] => { results := [.lit (.bool true)], args := [d] }
  | _ => none }
def fnExactLeastGapRow : OpenClaim := { program := "ytalndhjojcpgjaa", sum := "a73b266b8ed08ba8e35ad1337ec9ca684ae7b4646965d692370389c7c099bbc6", func := "loop.example/g01311/laws.FnExactLeastGap", spec := "fnExactLeastGap", unfollowed := true, recurses := true, apart := false }
def FnExactLeastGapSaid : Prop := fnExactLeastGapRow.holds Try.pinned (OpenSpec.ofChange fnExactLeastGapSpec)

/-- ITS FALSE NEIGHBOUR: 'it returns false'. Refute it at one input. -/
def fnExactLeastGapWrong : ChangeSpec := { name := "fnExactLeastGap", fn := fun _ => fun
  | [d] => { results := [.lit (.bool false)], args := [d] }
  | _ => none }
def FnExactLeastGapWrongFalsely : Prop := fnExactLeastGapRow.holds Try.pinned (OpenSpec.ofChange fnExactLeastGapWrong)

/- THE SECOND FORM. 'bulk': how many values and letters a reading holds, each counted each time it is reached (what is shared counts as often as it is met; a slice's spare places count too). A statement '..UptoSaid' is the law's where the arguments, and the package variables that the reading takes, are together of bulk at most 1048576: NARROWER than '..Said'. Prove '..Said' where nothing that the law and all that it calls make is longer than what came in: it says more and counts as full. Else prove '..UptoSaid'. A law counts once. -/
mutual
def uptoBulk {H : Type} : DataW H → Nat
  | .lit (.string bytes) => bytes.length + 1
  | .lit _ => 1
  | .nil => 1
  | .ptr d => uptoBulk d + 1
  | .slice elems spare => uptoBulkAll elems + uptoBulkAll spare + 1
  | .agg parts => uptoBulkAll parts + 1
  | .iface _ d => uptoBulk d + 1
  | .map entries => uptoBulkEntries entries + 1
  | .held _ => 1
def uptoBulkAll {H : Type} : List (DataW H) → Nat
  | [] => 0
  | d :: r => uptoBulk d + uptoBulkAll r
def uptoBulkEntries {H : Type} : List (Lit × DataW H) → Nat
  | [] => 0
  | x :: r => uptoBulkEntry x + uptoBulkEntries r
def uptoBulkEntry {H : Type} : Lit × DataW H → Nat
  | (.string bytes, d) => bytes.length + uptoBulk d + 1
  | (_, d) => uptoBulk d + 1
 end
def uptoSmall : (H : Type) → List (DataW H) → Bool := fun _ ds => decide (uptoBulkAll ds ≤ 1048576)
def OpenSpec.upto (s : _root_.Go.ChangeSpec) : _root_.Go.OpenSpec := { _root_.Go.OpenSpec.ofChange s with cond := some uptoSmall }

/-- 'laws.FnExactLoudestStep', WHERE WHAT IT READS IS OF BULK AT MOST 1048576: true; the input reads as it did. -/
def fnExactLoudestStepUptoRow : OpenClaim := { program := "ytalndhjojcpgjaa", sum := "a73b266b8ed08ba8e35ad1337ec9ca684ae7b4646965d692370389c7c099bbc6", func := "loop.example/g01311/laws.FnExactLoudestStep", spec := "fnExactLoudestStep", unfollowed := true, recurses := true, apart := false, narrowed := true }
def FnExactLoudestStepUptoSaid : Prop := fnExactLoudestStepUptoRow.holds Try.pinned (OpenSpec.upto fnExactLoudestStepSpec)

/-- 'laws.FnExactBestShift', WHERE WHAT IT READS IS OF BULK AT MOST 1048576: true; the input reads as it did. -/
def fnExactBestShiftUptoRow : OpenClaim := { program := "ytalndhjojcpgjaa", sum := "a73b266b8ed08ba8e35ad1337ec9ca684ae7b4646965d692370389c7c099bbc6", func := "loop.example/g01311/laws.FnExactBestShift", spec := "fnExactBestShift", unfollowed := true, recurses := true, apart := false, narrowed := true }
def FnExactBestShiftUptoSaid : Prop := fnExactBestShiftUptoRow.holds Try.pinned (OpenSpec.upto fnExactBestShiftSpec)

/-- 'laws.FnExactJoinTunes', WHERE WHAT IT READS IS OF BULK AT MOST 1048576: true; the input reads as it did. -/
def fnExactJoinTunesUptoRow : OpenClaim := { program := "ytalndhjojcpgjaa", sum := "a73b266b8ed08ba8e35ad1337ec9ca684ae7b4646965d692370389c7c099bbc6", func := "loop.example/g01311/laws.FnExactJoinTunes", spec := "fnExactJoinTunes", unfollowed := true, recurses := true, apart := false, narrowed := true }
def FnExactJoinTunesUptoSaid : Prop := fnExactJoinTunesUptoRow.holds Try.pinned (OpenSpec.upto fnExactJoinTunesSpec)

/-- 'laws.FnExactLeastGap', WHERE WHAT IT READS IS OF BULK AT MOST 1048576: true; the input reads as it did. -/
def fnExactLeastGapUptoRow : OpenClaim := { program := "ytalndhjojcpgjaa", sum := "a73b266b8ed08ba8e35ad1337ec9ca684ae7b4646965d692370389c7c099bbc6", func := "loop.example/g01311/laws.FnExactLeastGap", spec := "fnExactLeastGap", unfollowed := true, recurses := true, apart := false, narrowed := true }
def FnExactLeastGapUptoSaid : Prop := fnExactLeastGapUptoRow.holds Try.pinned (OpenSpec.upto fnExactLeastGapSpec)

end Rows
end Go.Proofs.Ytalndhjojcpgjaa
