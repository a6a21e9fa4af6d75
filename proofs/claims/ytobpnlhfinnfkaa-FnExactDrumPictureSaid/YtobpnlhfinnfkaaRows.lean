/-
  No cell of these rows narrows 'for every input' (looked for: loops, veiled, ifaces, maps, wideKeys, modest, calm, conditions, laid).
  DERIVED. THE GIVEN ROWS OF THIS SEAT. 4 by the template 'for every input the law returns true; each argument reads behind the call as it read before'; 0 by the template 'total and deterministic' (their statements: YtobpnlhfinnfkaaTotals.lean).
  GIVEN WITH THE SEED: the statements are not yours to turn. If you find one false, say at which input.
  Laid BY PROGRAM, IN A SANDBOX (cutbox-rows.mjs): the forced cells as the released guide's own fill.sh prints them over the translation abd455e0de73b8a1… (all of the seat's roots in one cut). By AI agents, Wed Nov 11 2026. No macro, syntax, notation, axiom, sorry.
-/
import Derived.Test.YtobpnlhfinnfkaaChecked
import GoSem.Claim
import GoSem.ClaimJoined
import GoSem.ClaimMapViews
import Derived.JoinedTies
import Derived.KernelRfl
namespace Go.Proofs.Ytobpnlhfinnfkaa
/- THE CELL 'sum', in the pinned program and in every row, IS THE sha256 OF THE DUMP (.gsa) THAT YtobpnlhfinnfkaaProg.lean LOADS. Nothing in Lean hashes anything: it is a label: what it is worth is what the hold of that sum in a sandbox is worth. -/
noncomputable def Try.pinned : Pinned := { name := "ytobpnlhfinnfkaa", sum := "abd455e0de73b8a1a2cf53b0773b0c50045644dc867a634fa12f08bf44f6e882", checked := Try.checked }
namespace Rows
def none {H : Type} : Left H := { results := [], args := [] }

/-- 'laws.FnExactHammersNeeded': WHATEVER THE INPUT: true; the input reads as it did. -/
def fnExactHammersNeededSpec : ChangeSpec := { name := "fnExactHammersNeeded", fn := fun _ => fun
  | [d1, d2, d3] => { results := [.lit (.bool true)], args := [d1, d2, d3] }
  | _ => none }
def fnExactHammersNeededRow : OpenClaim := { program := "ytobpnlhfinnfkaa", sum := "abd455e0de73b8a1a2cf53b0773b0c50045644dc867a634fa12f08bf44f6e882", func := "loop.example/g01311/laws.FnExactHammersNeeded", spec := "fnExactHammersNeeded", unfollowed := true, recurses := true, apart := false }
def FnExactHammersNeededSaid : Prop := fnExactHammersNeededRow.holds Try.pinned (OpenSpec.ofChange fnExactHammersNeededSpec)

/-- ITS FALSE NEIGHBOUR: 'it returns false'. Refute it at one input. -/
def fnExactHammersNeededWrong : ChangeSpec := { name := "fnExactHammersNeeded", fn := fun _ => fun
  | [d1, d2, d3] => { results := [.lit (.bool false)], args := [d1, d2, d3] }
  | _ => none }
def FnExactHammersNeededWrongFalsely : Prop := fnExactHammersNeededRow.holds Try.pinned (OpenSpec.ofChange fnExactHammersNeededWrong)

/-- 'laws.FnExactSwapTracks': WHATEVER THE INPUT: true; the input reads as it did. -/
def fnExactSwapTracksSpec : ChangeSpec := { name := "fnExactSwapTracks", fn := fun _ => fun
  | [d1, d2, d3, d4] => { results := [.lit (.bool true)], args := [d1, d2, d3, d4] }
  | _ => none }
def fnExactSwapTracksRow : OpenClaim := { program := "ytobpnlhfinnfkaa", sum := "abd455e0de73b8a1a2cf53b0773b0c50045644dc867a634fa12f08bf44f6e882", func := "loop.example/g01311/laws.FnExactSwapTracks", spec := "fnExactSwapTracks", unfollowed := true, recurses := true, apart := false }
def FnExactSwapTracksSaid : Prop := fnExactSwapTracksRow.holds Try.pinned (OpenSpec.ofChange fnExactSwapTracksSpec)

/-- ITS FALSE NEIGHBOUR: 'it returns false'. Refute it at one input. -/
def fnExactSwapTracksWrong : ChangeSpec := { name := "fnExactSwapTracks", fn := fun _ => fun
  | [d1, d2, d3, d4] => { results := [.lit (.bool false)], args := [d1, d2, d3, d4] }
  | _ => none }
def FnExactSwapTracksWrongFalsely : Prop := fnExactSwapTracksRow.holds Try.pinned (OpenSpec.ofChange fnExactSwapTracksWrong)

/-- 'laws.FnExactLeastGap': WHATEVER THE INPUT: true; the input reads as it did. -/
def fnExactLeastGapSpec : ChangeSpec := { name := "fnExactLeastGap", fn := fun _ => fun
  | [d] => { results := [.lit (.bool true)], args := [d] }
  | _ => none }
def fnExactLeastGapRow : OpenClaim := { program := "ytobpnlhfinnfkaa", sum := "abd455e0de73b8a1a2cf53b0773b0c50045644dc867a634fa12f08bf44f6e882", func := "loop.example/g01311/laws.FnExactLeastGap", spec := "fnExactLeastGap", unfollowed := true, recurses := true, apart := false }
def FnExactLeastGapSaid : Prop := fnExactLeastGapRow.holds Try.pinned (OpenSpec.ofChange fnExactLeastGapSpec)

/-- ITS FALSE NEIGHBOUR: 'it returns false'. Refute it at one input. -/
def fnExactLeastGapWrong : ChangeSpec := { name := "fnExactLeastGap", fn := fun _ => fun
  | [d] => { results := [.lit (.bool false)], args := [d] }
  | _ => none }
def FnExactLeastGapWrongFalsely : Prop := fnExactLeastGapRow.holds Try.pinned (OpenSpec.ofChange fnExactLeastGapWrong)

/-- 'laws.FnExactDrumPicture': WHATEVER THE INPUT: true; the input reads as it did. -/
def fnExactDrumPictureSpec : ChangeSpec := { name := "fnExactDrumPicture", fn := fun _ => fun
  | [d1, d2] => { results := [.lit (.bool true)], args := [d1, d2] }
  | _ => none }
def fnExactDrumPictureRow : OpenClaim := { program := "ytobpnlhfinnfkaa", sum := "abd455e0de73b8a1a2cf53b0773b0c50045644dc867a634fa12f08bf44f6e882", func := "loop.example/g01311/laws.FnExactDrumPicture", spec := "fnExactDrumPicture", unfollowed := true, recurses := true, apart := false }
def FnExactDrumPictureSaid : Prop := fnExactDrumPictureRow.holds Try.pinned (OpenSpec.ofChange fnExactDrumPictureSpec)

/-- ITS FALSE NEIGHBOUR: 'it returns false'. Refute it at one input. -/
def fnExactDrumPictureWrong : ChangeSpec := { name := "fnExactDrumPicture", fn := fun _ => fun
  | [d1, d2] => { results := [.lit (.bool false)], args := [d1, d2] }
  | _ => none }
def FnExactDrumPictureWrongFalsely : Prop := fnExactDrumPictureRow.holds Try.pinned (OpenSpec.ofChange fnExactDrumPictureWrong)

/- THE SECOND FORM. 'bulk': how many values and letters a reading holds, each counted each time it is reached (what is shared counts as often as it is met; a slice's spare places count too). A statement '..UptoSaid' is the law's where the arguments, and the package variables that the reading takes, are together of bulk at most 1048576: NARROWER than '..Said'. Prove '..Said' where nothing that the law and all that it calls make is longer than what came in: it says more and counts as full. Else prove '..UptoSaid'. A law counts once. -/
mutual
def uptoBulk {H : Type} : DataW H → Nat
  | .lit (.string bytes) => bytes.length + 1
  | .lit _ => 1
  | .nil => 1
  | .ptr d => uptoBulk d + 1
  | .slice elems spare => uptoBulkAll elems + uptoBulkAll spare + 1
  | .agg parts => uptoBulkAll parts + 1
  | .iface _ d => uptoBulk d + 1
  | .map entries => uptoBulkEntries entries + 1
  | .held _ => 1
def uptoBulkAll {H : Type} : List (DataW H) → Nat
  | [] => 0
  | d :: r => uptoBulk d + uptoBulkAll r
def uptoBulkEntries {H : Type} : List (Lit × DataW H) → Nat
  | [] => 0
  | x :: r => uptoBulkEntry x + uptoBulkEntries r
def uptoBulkEntry {H : Type} : Lit × DataW H → Nat
  | (.string bytes, d) => bytes.length + uptoBulk d + 1
  | (_, d) => uptoBulk d + 1
 end
def uptoSmall : (H : Type) → List (DataW H) → Bool := fun _ ds => decide (uptoBulkAll ds ≤ 1048576)
def OpenSpec.upto (s : _root_.Go.ChangeSpec) : _root_.Go.OpenSpec := { _root_.Go.OpenSpec.ofChange s with cond := some uptoSmall }

/-- 'laws.FnExactHammersNeeded', WHERE WHAT IT READS IS OF BULK AT MOST 1048576: true; the input reads as it did. -/
def fnExactHammersNeededUptoRow : OpenClaim := { program := "ytobpnlhfinnfkaa", sum := "abd455e0de73b8a1a2cf53b0773b0c50045644dc867a634fa12f08bf44f6e882", func := "loop.example/g01311/laws.FnExactHammersNeeded", spec := "fnExactHammersNeeded", unfollowed := true, recurses := true, apart := false, narrowed := true }
def FnExactHammersNeededUptoSaid : Prop := fnExactHammersNeededUptoRow.holds Try.pinned (OpenSpec.upto fnExactHammersNeededSpec)

/-- 'laws.FnExactSwapTracks', WHERE WHAT IT READS IS OF BULK AT MOST 1048576: true; the input reads as it did. -/
def fnExactSwapTracksUptoRow : OpenClaim := { program := "ytobpnlhfinnfkaa", sum := "abd455e0de73b8a1a2cf53b0773b0c50045644dc867a634fa12f08bf44f6e882", func := "loop.example/g01311/laws.FnExactSwapTracks", spec := "fnExactSwapTracks", unfollowed := true, recurses := true, apart := false, narrowed := true }
def FnExactSwapTracksUptoSaid : Prop := fnExactSwapTracksUptoRow.holds Try.pinned (OpenSpec.upto fnExactSwapTracksSpec)

/-- 'laws.FnExactLeastGap', WHERE WHAT IT READS IS OF BULK AT MOST 1048576: true; the input reads as it did. -/
def fnExactLeastGapUptoRow : OpenClaim := { program := "ytobpnlhfinnfkaa", sum := "abd455e0de73b8a1a2cf53b0773b0c50045644dc867a634fa12f08bf44f6e882", func := "loop.example/g01311/laws.FnExactLeastGap", spec := "fnExactLeastGap", unfollowed := true, recurses := true, apart := false, narrowed := true }
def FnExactLeastGapUptoSaid : Prop := fnExactLeastGapUptoRow.holds Try.pinned (OpenSpec.upto fnExactLeastGapSpec)

/-- 'laws.FnExactDrumPicture', WHERE WHAT IT READS IS OF BULK AT MOST 1048576: true; the input reads as it did. -/
def fnExactDrumPictureUptoRow : OpenClaim := { program := "ytobpnlhfinnfkaa", sum := "abd455e0de73b8a1a2cf53b0773b0c50045644dc867a634fa12f08bf44f6e882", func := "loop.example/g01311/laws.FnExactDrumPicture", spec := "fnExactDrumPicture", unfollowed := true, recurses := true, apart := false, narrowed := true }
def FnExactDrumPictureUptoSaid : Prop := fnExactDrumPictureUptoRow.holds Try.pinned (OpenSpec.upto fnExactDrumPictureSpec)

end Rows
end Go.Proofs.Ytobpnlhfinnfkaa
