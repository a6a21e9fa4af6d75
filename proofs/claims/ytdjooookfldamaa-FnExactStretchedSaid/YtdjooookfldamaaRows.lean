/-
  No cell of these rows narrows 'for every input' (looked for: loops, veiled, ifaces, maps, wideKeys, modest, calm, conditions, laid).
  DERIVED. THE GIVEN ROWS OF THIS SEAT. 4 by the template 'for every input the law returns true; each argument reads behind the call as it read before'; 0 by the template 'total and deterministic' (their statements: YtdjooookfldamaaTotals.lean).
  GIVEN WITH THE SEED: the statements are not yours to turn. If you find one false, say at which input.
  Laid BY PROGRAM, IN A SANDBOX (cutbox-rows.mjs): the forced cells as the released guide's own fill.sh prints them over the translation 40f2777c1a476b37… (all of the seat's roots in one cut). By AI agents, Wed Nov 11 2026. No macro, syntax, notation, axiom, sorry.
-/
import Derived.Test.YtdjooookfldamaaChecked
import GoSem.Claim
import GoSem.ClaimJoined
import GoSem.ClaimMapViews
import Derived.JoinedTies
import Derived.KernelRfl
namespace Go.Proofs.Ytdjooookfldamaa
/- THE CELL 'sum', in the pinned program and in every row, IS THE sha256 OF THE DUMP (.gsa) THAT YtdjooookfldamaaProg.lean LOADS. Nothing in Lean hashes anything: it is a label: what it is worth is what the hold of that sum in a sandbox is worth. -/
noncomputable def Try.pinned : Pinned := { name := "ytdjooookfldamaa", sum := "40f2777c1a476b37303a0262849961cd5ccc59b0502cd51fa413d967d88b6c39", checked := Try.checked }
namespace Rows
def none {H : Type} : Left H := { results := [], args := [] }

/-- 'laws.FnExactMoveTune': WHATEVER THE INPUT: true; the input reads as it did. -/
def fnExactMoveTuneSpec : ChangeSpec := { name := "fnExactMoveTune", fn := fun _ => fun
  | [d1, d2] => { results := [.lit (.bool true)], args := [d1, d2] }
  | _ => none }
def fnExactMoveTuneRow : OpenClaim := { program := "ytdjooookfldamaa", sum := "40f2777c1a476b37303a0262849961cd5ccc59b0502cd51fa413d967d88b6c39", func := "loop.example/g01311/laws.FnExactMoveTune", spec := "fnExactMoveTune", unfollowed := true, recurses := true, apart := false }
def FnExactMoveTuneSaid : Prop := fnExactMoveTuneRow.holds Try.pinned (OpenSpec.ofChange fnExactMoveTuneSpec)

/-- ITS FALSE NEIGHBOUR: 'it returns false'. Refute it at one input. -/
def fnExactMoveTuneWrong : ChangeSpec := { name := "fnExactMoveTune", fn := fun _ => fun
  | [d1, d2] => { results := [.lit (.bool false)], args := [d1, d2] }
  | _ => none }
def FnExactMoveTuneWrongFalsely : Prop := fnExactMoveTuneRow.holds Try.pinned (OpenSpec.ofChange fnExactMoveTuneWrong)

/-- 'laws.FnExactTranspose': WHATEVER THE INPUT: true; the input reads as it did. -/
def fnExactTransposeSpec : ChangeSpec := { name := "fnExactTranspose", fn := fun _ => fun
  | [d1, d2] => { results := [.lit (.bool true)], args := [d1, d2] }
  | _ => none }
def fnExactTransposeRow : OpenClaim := { program := "ytdjooookfldamaa", sum := "40f2777c1a476b37303a0262849961cd5ccc59b0502cd51fa413d967d88b6c39", func := "loop.example/g01311/laws.FnExactTranspose", spec := "fnExactTranspose", unfollowed := true, recurses := true, apart := false }
def FnExactTransposeSaid : Prop := fnExactTransposeRow.holds Try.pinned (OpenSpec.ofChange fnExactTransposeSpec)

/-- ITS FALSE NEIGHBOUR: 'it returns false'. Refute it at one input. -/
def fnExactTransposeWrong : ChangeSpec := { name := "fnExactTranspose", fn := fun _ => fun
  | [d1, d2] => { results := [.lit (.bool false)], args := [d1, d2] }
  | _ => none }
def FnExactTransposeWrongFalsely : Prop := fnExactTransposeRow.holds Try.pinned (OpenSpec.ofChange fnExactTransposeWrong)

/-- 'laws.FnExactStretched': WHATEVER THE INPUT: true; the input reads as it did. -/
def fnExactStretchedSpec : ChangeSpec := { name := "fnExactStretched", fn := fun _ => fun
  | [d1, d2, d3] => { results := [.lit (.bool true)], args := [d1, d2, d3] }
  | _ => none }
def fnExactStretchedRow : OpenClaim := { program := "ytdjooookfldamaa", sum := "40f2777c1a476b37303a0262849961cd5ccc59b0502cd51fa413d967d88b6c39", func := "loop.example/g01311/laws.FnExactStretched", spec := "fnExactStretched", unfollowed := true, recurses := true, apart := false }
def FnExactStretchedSaid : Prop := fnExactStretchedRow.holds Try.pinned (OpenSpec.ofChange fnExactStretchedSpec)

/-- ITS FALSE NEIGHBOUR: 'it returns false'. Refute it at one input. -/
def fnExactStretchedWrong : ChangeSpec := { name := "fnExactStretched", fn := fun _ => fun
  | [d1, d2, d3] => { results := [.lit (.bool false)], args := [d1, d2, d3] }
  | _ => none }
def FnExactStretchedWrongFalsely : Prop := fnExactStretchedRow.holds Try.pinned (OpenSpec.ofChange fnExactStretchedWrong)

/-- 'laws.FnExactTransposeFor': WHATEVER THE INPUT: true; the input reads as it did. -/
def fnExactTransposeForSpec : ChangeSpec := { name := "fnExactTransposeFor", fn := fun _ => fun
  | [d1, d2] => { results := [.lit (.bool true)], args := [d1, d2] }
  | _ => none }
def fnExactTransposeForRow : OpenClaim := { program := "ytdjooookfldamaa", sum := "40f2777c1a476b37303a0262849961cd5ccc59b0502cd51fa413d967d88b6c39", func := "loop.example/g01311/laws.FnExactTransposeFor", spec := "fnExactTransposeFor", unfollowed := true, recurses := true, apart := false }
def FnExactTransposeForSaid : Prop := fnExactTransposeForRow.holds Try.pinned (OpenSpec.ofChange fnExactTransposeForSpec)

/-- ITS FALSE NEIGHBOUR: 'it returns false'. Refute it at one input. -/
def fnExactTransposeForWrong : ChangeSpec := { name := "fnExactTransposeFor", fn := fun _ => fun
  | [d1, d2] => { results := [.lit (.bool false)], args := [d1, d2] }
  | _ => none }
def FnExactTransposeForWrongFalsely : Prop := fnExactTransposeForRow.holds Try.pinned (OpenSpec.ofChange fnExactTransposeForWrong)

/- THE SECOND FORM. 'bulk': how many values and letters a reading holds, each counted each time it is reached (what is shared counts as often as it is met; a slice's spare places count too). A statement '..UptoSaid' is the law's where the arguments, and the package variables that the reading takes, are together of bulk at most 1048576: NARROWER than '..Said'. Prove '..Said' where nothing that the law and all that it calls make is longer than what came in: it says more and counts as full. Else prove '..UptoSaid'. A law counts once. -/
mutual
def uptoBulk {H : Type} : DataW H → Nat
  | .lit (.string bytes) => bytes.length + 1
  | .lit _ => 1
  | .nil => 1
  | .ptr d => uptoBulk d + 1
  | .slice elems spare => uptoBulkAll elems + uptoBulkAll spare + 1
  | .agg parts => uptoBulkAll parts + 1
  | .iface _ d => uptoBulk d + 1
  | .map entries => uptoBulkEntries entries + 1
  | .held _ => 1
def uptoBulkAll {H : Type} : List (DataW H) → Nat
  | [] => 0
  | d :: r => uptoBulk d + uptoBulkAll r
def uptoBulkEntries {H : Type} : List (Lit × DataW H) → Nat
  | [] => 0
  | x :: r => uptoBulkEntry x + uptoBulkEntries r
def uptoBulkEntry {H : Type} : Lit × DataW H → Nat
  | (.string bytes, d) => bytes.length + uptoBulk d + 1
  | (_, d) => uptoBulk d + 1
 end
def uptoSmall : (H : Type) → List (DataW H) → Bool := fun _ ds => decide (uptoBulkAll ds ≤ 1048576)
def OpenSpec.upto (s : _root_.Go.ChangeSpec) : _root_.Go.OpenSpec := { _root_.Go.OpenSpec.ofChange s with cond := some uptoSmall }

/-- 'laws.FnExactMoveTune', WHERE WHAT IT READS IS OF BULK AT MOST 1048576: true; the input reads as it did. -/
def fnExactMoveTuneUptoRow : OpenClaim := { program := "ytdjooookfldamaa", sum := "40f2777c1a476b37303a0262849961cd5ccc59b0502cd51fa413d967d88b6c39", func := "loop.example/g01311/laws.FnExactMoveTune", spec := "fnExactMoveTune", unfollowed := true, recurses := true, apart := false, narrowed := true }
def FnExactMoveTuneUptoSaid : Prop := fnExactMoveTuneUptoRow.holds Try.pinned (OpenSpec.upto fnExactMoveTuneSpec)

/-- 'laws.FnExactTranspose', WHERE WHAT IT READS IS OF BULK AT MOST 1048576: true; the input reads as it did. -/
def fnExactTransposeUptoRow : OpenClaim := { program := "ytdjooookfldamaa", sum := "40f2777c1a476b37303a0262849961cd5ccc59b0502cd51fa413d967d88b6c39", func := "loop.example/g01311/laws.FnExactTranspose", spec := "fnExactTranspose", unfollowed := true, recurses := true, apart := false, narrowed := true }
def FnExactTransposeUptoSaid : Prop := fnExactTransposeUptoRow.holds Try.pinned (OpenSpec.upto fnExactTransposeSpec)

/-- 'laws.FnExactStretched', WHERE WHAT IT READS IS OF BULK AT MOST 1048576: true; the input reads as it did. -/
def fnExactStretchedUptoRow : OpenClaim := { program := "ytdjooookfldamaa", sum := "40f2777c1a476b37303a0262849961cd5ccc59b0502cd51fa413d967d88b6c39", func := "loop.example/g01311/laws.FnExactStretched", spec := "fnExactStretched", unfollowed := true, recurses := true, apart := false, narrowed := true }
def FnExactStretchedUptoSaid : Prop := fnExactStretchedUptoRow.holds Try.pinned (OpenSpec.upto fnExactStretchedSpec)

/-- 'laws.FnExactTransposeFor', WHERE WHAT IT READS IS OF BULK AT MOST 1048576: true; the input reads as it did. -/
def fnExactTransposeForUptoRow : OpenClaim := { program := "ytdjooookfldamaa", sum := "40f2777c1a476b37303a0262849961cd5ccc59b0502cd51fa413d967d88b6c39", func := "loop.example/g01311/laws.FnExactTransposeFor", spec := "fnExactTransposeFor", unfollowed := true, recurses := true, apart := false, narrowed := true }
def FnExactTransposeForUptoSaid : Prop := fnExactTransposeForUptoRow.holds Try.pinned (OpenSpec.upto fnExactTransposeForSpec)

end Rows
end Go.Proofs.Ytdjooookfldamaa
