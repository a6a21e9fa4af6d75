/-
  No cell of these rows narrows 'for every input' (looked for: loops, veiled, ifaces, maps, wideKeys, modest, calm, conditions, laid).
  DERIVED. THE GIVEN ROWS OF THIS SEAT. 12 by the template 'for every input the law returns true; each argument reads behind the call as it read before'; 0 by the template 'total and deterministic' (their statements: YtkibfahlfnaeoaaTotals.lean).
  GIVEN WITH THE SEED: the statements are not yours to turn. If you find one false, say at which input.
  Laid BY PROGRAM, IN A SANDBOX (cutbox-rows.mjs): the forced cells as the released guide's own fill.sh prints them over the translation 7a62a9c25272cc79… (all of the seat's roots in one cut). By AI agents, Wed Nov 11 2026. No macro, syntax, notation, axiom, sorry.
-/
import Derived.Test.YtkibfahlfnaeoaaChecked
import GoSem.Claim
import GoSem.ClaimJoined
import GoSem.ClaimMapViews
import Derived.JoinedTies
import Derived.KernelRfl
namespace Go.Proofs.Ytkibfahlfnaeoaa
/- THE CELL 'sum', in the pinned program and in every row, IS THE sha256 OF THE DUMP (.gsa) THAT YtkibfahlfnaeoaaProg.lean LOADS. Nothing in Lean hashes anything: it is a label: what it is worth is what the hold of that sum in a sandbox is worth. -/
noncomputable def Try.pinned : Pinned := { name := "ytkibfahlfnaeoaa", sum := "7a62a9c25272cc7953b9f5d521cf6bd2f2489b355079005dcea9a7d43f82ddd5", checked := Try.checked }
namespace Rows
def none {H : Type} : Left H := { results := [], args := [] }

/-- 'laws.FnExactConstants': WHATEVER THE INPUT: true; the input reads as it did. -/
def fnExactConstantsSpec : ChangeSpec := { name := "fnExactConstants", fn := fun _ => fun
  | [] => { results := [.lit (.bool true)], args := [] }
  | _ => none }
def fnExactConstantsRow : OpenClaim := { program := "ytkibfahlfnaeoaa", sum := "7a62a9c25272cc7953b9f5d521cf6bd2f2489b355079005dcea9a7d43f82ddd5", func := "loop.example/g01311/laws.FnExactConstants", spec := "fnExactConstants", apart := false }
def FnExactConstantsSaid : Prop := fnExactConstantsRow.holds Try.pinned (OpenSpec.ofChange fnExactConstantsSpec)

/-- ITS FALSE NEIGHBOUR: 'it returns false'. Refute it at one input. -/
def fnExactConstantsWrong : ChangeSpec := { name := "fnExactConstants", fn := fun _ => fun
  | [] => { results := [.lit (.bool false)], args := [] }
  | _ => none }
def FnExactConstantsWrongFalsely : Prop := fnExactConstantsRow.holds Try.pinned (OpenSpec.ofChange fnExactConstantsWrong)

/-- 'laws.FnExactCodeName': WHATEVER THE INPUT: true; the input reads as it did. -/
def fnExactCodeNameSpec : ChangeSpec := { name := "fnExactCodeName", fn := fun _ => fun
  | [d] => { results := [.lit (.bool true)], args := [d] }
  | _ => none }
def fnExactCodeNameRow : OpenClaim := { program := "ytkibfahlfnaeoaa", sum := "7a62a9c25272cc7953b9f5d521cf6bd2f2489b355079005dcea9a7d43f82ddd5", func := "loop.example/g01311/laws.FnExactCodeName", spec := "fnExactCodeName", apart := false }
def FnExactCodeNameSaid : Prop := fnExactCodeNameRow.holds Try.pinned (OpenSpec.ofChange fnExactCodeNameSpec)

/-- ITS FALSE NEIGHBOUR: 'it returns false'. Refute it at one input. -/
def fnExactCodeNameWrong : ChangeSpec := { name := "fnExactCodeName", fn := fun _ => fun
  | [d] => { results := [.lit (.bool false)], args := [d] }
  | _ => none }
def FnExactCodeNameWrongFalsely : Prop := fnExactCodeNameRow.holds Try.pinned (OpenSpec.ofChange fnExactCodeNameWrong)

/-- 'laws.FnExactSameTune': WHATEVER THE INPUT: true; the input reads as it did. -/
def fnExactSameTuneSpec : ChangeSpec := { name := "fnExactSameTune", fn := fun _ => fun
  | [d1, d2] => { results := [.lit (.bool true)], args := [d1, d2] }
  | _ => none }
def fnExactSameTuneRow : OpenClaim := { program := "ytkibfahlfnaeoaa", sum := "7a62a9c25272cc7953b9f5d521cf6bd2f2489b355079005dcea9a7d43f82ddd5", func := "loop.example/g01311/laws.FnExactSameTune", spec := "fnExactSameTune", apart := false }
def FnExactSameTuneSaid : Prop := fnExactSameTuneRow.holds Try.pinned (OpenSpec.ofChange fnExactSameTuneSpec)

/-- ITS FALSE NEIGHBOUR: 'it returns false'. Refute it at one input. -/
def fnExactSameTuneWrong : ChangeSpec := { name := "fnExactSameTune", fn := fun _ => fun
  | [d1, d2] => { results := [.lit (.bool false)], args := [d1, d2] }
  | _ => none }
def FnExactSameTuneWrongFalsely : Prop := fnExactSameTuneRow.holds Try.pinned (OpenSpec.ofChange fnExactSameTuneWrong)

/-- 'laws.FnExactValidTune': WHATEVER THE INPUT: true; the input reads as it did. -/
def fnExactValidTuneSpec : ChangeSpec := { name := "fnExactValidTune", fn := fun _ => fun
  | [d] => { results := [.lit (.bool true)], args := [d] }
  | _ => none }
def fnExactValidTuneRow : OpenClaim := { program := "ytkibfahlfnaeoaa", sum := "7a62a9c25272cc7953b9f5d521cf6bd2f2489b355079005dcea9a7d43f82ddd5", func := "loop.example/g01311/laws.FnExactValidTune", spec := "fnExactValidTune", apart := false }
def FnExactValidTuneSaid : Prop := fnExactValidTuneRow.holds Try.pinned (OpenSpec.ofChange fnExactValidTuneSpec)

/-- ITS FALSE NEIGHBOUR: 'it returns false'. Refute it at one input. -/
def fnExactValidTuneWrong : ChangeSpec := { name := "fnExactValidTune", fn := fun _ => fun
  | [d] => { results := [.lit (.bool false)], args := [d] }
  | _ => none }
def FnExactValidTuneWrongFalsely : Prop := fnExactValidTuneRow.holds Try.pinned (OpenSpec.ofChange fnExactValidTuneWrong)

/-- 'laws.FnExactLengthOf': WHATEVER THE INPUT: true; the input reads as it did. -/
def fnExactLengthOfSpec : ChangeSpec := { name := "fnExactLengthOf", fn := fun _ => fun
  | [d] => { results := [.lit (.bool true)], args := [d] }
  | _ => none }
def fnExactLengthOfRow : OpenClaim := { program := "ytkibfahlfnaeoaa", sum := "7a62a9c25272cc7953b9f5d521cf6bd2f2489b355079005dcea9a7d43f82ddd5", func := "loop.example/g01311/laws.FnExactLengthOf", spec := "fnExactLengthOf", unfollowed := true, recurses := true, apart := false }
def FnExactLengthOfSaid : Prop := fnExactLengthOfRow.holds Try.pinned (OpenSpec.ofChange fnExactLengthOfSpec)

/-- ITS FALSE NEIGHBOUR: 'it returns false'. Refute it at one input. -/
def fnExactLengthOfWrong : ChangeSpec := { name := "fnExactLengthOf", fn := fun _ => fun
  | [d] => { results := [.lit (.bool false)], args := [d] }
  | _ => none }
def FnExactLengthOfWrongFalsely : Prop := fnExactLengthOfRow.holds Try.pinned (OpenSpec.ofChange fnExactLengthOfWrong)

/-- 'laws.FnExactMissingFor': WHATEVER THE INPUT: true; the input reads as it did. -/
def fnExactMissingForSpec : ChangeSpec := { name := "fnExactMissingFor", fn := fun _ => fun
  | [d1, d2] => { results := [.lit (.bool true)], args := [d1, d2] }
  | _ => none }
def fnExactMissingForRow : OpenClaim := { program := "ytkibfahlfnaeoaa", sum := "7a62a9c25272cc7953b9f5d521cf6bd2f2489b355079005dcea9a7d43f82ddd5", func := "loop.example/g01311/laws.FnExactMissingFor", spec := "fnExactMissingFor", unfollowed := true, recurses := true, apart := false }
def FnExactMissingForSaid : Prop := fnExactMissingForRow.holds Try.pinned (OpenSpec.ofChange fnExactMissingForSpec)

/-- ITS FALSE NEIGHBOUR: 'it returns false'. Refute it at one input. -/
def fnExactMissingForWrong : ChangeSpec := { name := "fnExactMissingFor", fn := fun _ => fun
  | [d1, d2] => { results := [.lit (.bool false)], args := [d1, d2] }
  | _ => none }
def FnExactMissingForWrongFalsely : Prop := fnExactMissingForRow.holds Try.pinned (OpenSpec.ofChange fnExactMissingForWrong)

/-- 'laws.FnExactPitchesOf': WHATEVER THE INPUT: true; the input reads as it did. -/
def fnExactPitchesOfSpec : ChangeSpec := { name := "fnExactPitchesOf", fn := fun _ => fun
  | [d] => { results := [.lit (.bool true)], args := [d] }
  | _ => none }
def fnExactPitchesOfRow : OpenClaim := { program := "ytkibfahlfnaeoaa", sum := "7a62a9c25272cc7953b9f5d521cf6bd2f2489b355079005dcea9a7d43f82ddd5", func := "loop.example/g01311/laws.FnExactPitchesOf", spec := "fnExactPitchesOf", unfollowed := true, recurses := true, apart := false }
def FnExactPitchesOfSaid : Prop := fnExactPitchesOfRow.holds Try.pinned (OpenSpec.ofChange fnExactPitchesOfSpec)

/-- ITS FALSE NEIGHBOUR: 'it returns false'. Refute it at one input. -/
def fnExactPitchesOfWrong : ChangeSpec := { name := "fnExactPitchesOf", fn := fun _ => fun
  | [d] => { results := [.lit (.bool false)], args := [d] }
  | _ => none }
def FnExactPitchesOfWrongFalsely : Prop := fnExactPitchesOfRow.holds Try.pinned (OpenSpec.ofChange fnExactPitchesOfWrong)

/-- 'laws.FnExactCanPlay': WHATEVER THE INPUT: true; the input reads as it did. -/
def fnExactCanPlaySpec : ChangeSpec := { name := "fnExactCanPlay", fn := fun _ => fun
  | [d1, d2] => { results := [.lit (.bool true)], args := [d1, d2] }
  | _ => none }
def fnExactCanPlayRow : OpenClaim := { program := "ytkibfahlfnaeoaa", sum := "7a62a9c25272cc7953b9f5d521cf6bd2f2489b355079005dcea9a7d43f82ddd5", func := "loop.example/g01311/laws.FnExactCanPlay", spec := "fnExactCanPlay", unfollowed := true, recurses := true, apart := false }
def FnExactCanPlaySaid : Prop := fnExactCanPlayRow.holds Try.pinned (OpenSpec.ofChange fnExactCanPlaySpec)

/-- ITS FALSE NEIGHBOUR: 'it returns false'. Refute it at one input. -/
def fnExactCanPlayWrong : ChangeSpec := { name := "fnExactCanPlay", fn := fun _ => fun
  | [d1, d2] => { results := [.lit (.bool false)], args := [d1, d2] }
  | _ => none }
def FnExactCanPlayWrongFalsely : Prop := fnExactCanPlayRow.holds Try.pinned (OpenSpec.ofChange fnExactCanPlayWrong)

/-- 'laws.FnExactLeastGap': WHATEVER THE INPUT: true; the input reads as it did. -/
def fnExactLeastGapSpec : ChangeSpec := { name := "fnExactLeastGap", fn := fun _ => fun
  | [d] => { results := [.lit (.bool true)], args := [d] }
  | _ => none }
def fnExactLeastGapRow : OpenClaim := { program := "ytkibfahlfnaeoaa", sum := "7a62a9c25272cc7953b9f5d521cf6bd2f2489b355079005dcea9a7d43f82ddd5", func := "loop.example/g01311/laws.FnExactLeastGap", spec := "fnExactLeastGap", unfollowed := true, recurses := true, apart := false }
def FnExactLeastGapSaid : Prop := fnExactLeastGapRow.holds Try.pinned (OpenSpec.ofChange fnExactLeastGapSpec)

/-- ITS FALSE NEIGHBOUR: 'it returns false'. Refute it at one input. -/
def fnExactLeastGapWrong : ChangeSpec := { name := "fnExactLeastGap", fn := fun _ => fun
  | [d] => { results := [.lit (.bool false)], args := [d] }
  | _ => none }
def FnExactLeastGapWrongFalsely : Prop := fnExactLeastGapRow.holds Try.pinned (OpenSpec.ofChange fnExactLeastGapWrong)

/-- 'laws.FnExactLoudestStep': WHATEVER THE INPUT: true; the input reads as it did. -/
def fnExactLoudestStepSpec : ChangeSpec := { name := "fnExactLoudestStep", fn := fun _ => fun
  | [d] => { results := [.lit (.bool true)], args := [d] }
  | _ => none }
def fnExactLoudestStepRow : OpenClaim := { program := "ytkibfahlfnaeoaa", sum := "7a62a9c25272cc7953b9f5d521cf6bd2f2489b355079005dcea9a7d43f82ddd5", func := "loop.example/g01311/laws.FnExactLoudestStep", spec := "fnExactLoudestStep", unfollowed := true, recurses := true, apart := false }
def FnExactLoudestStepSaid : Prop := fnExactLoudestStepRow.holds Try.pinned (OpenSpec.ofChange fnExactLoudestStepSpec)

/-- ITS FALSE NEIGHBOUR: 'it returns false'. Refute it at one input. -/
def fnExactLoudestStepWrong : ChangeSpec := { name := "fnExactLoudestStep", fn := fun _ => fun
  | [d] => { results := [.lit (.bool false)], args := [d] }
  | _ => none }
def FnExactLoudestStepWrongFalsely : Prop := fnExactLoudestStepRow.holds Try.pinned (OpenSpec.ofChange fnExactLoudestStepWrong)

/-- 'laws.FnExactCutTune': WHATEVER THE INPUT: true; the input reads as it did. -/
def fnExactCutTuneSpec : ChangeSpec := { name := "fnExactCutTune", fn := fun _ => fun
  | [d1, d2, d3] => { results := [.lit (.bool true)], args := [d1, d2, d3] }
  | _ => none }
def fnExactCutTuneRow : OpenClaim := { program := "ytkibfahlfnaeoaa", sum := "7a62a9c25272cc7953b9f5d521cf6bd2f2489b355079005dcea9a7d43f82ddd5", func := "loop.example/g01311/laws.FnExactCutTune", spec := "fnExactCutTune", unfollowed := true, recurses := true, apart := false }
def FnExactCutTuneSaid : Prop := fnExactCutTuneRow.holds Try.pinned (OpenSpec.ofChange fnExactCutTuneSpec)

/-- ITS FALSE NEIGHBOUR: 'it returns false'. Refute it at one input. -/
def fnExactCutTuneWrong : ChangeSpec := { name := "fnExactCutTune", fn := fun _ => fun
  | [d1, d2, d3] => { results := [.lit (.bool false)], args := [d1, d2, d3] }
  | _ => none }
def FnExactCutTuneWrongFalsely : Prop := fnExactCutTuneRow.holds Try.pinned (OpenSpec.ofChange fnExactCutTuneWrong)

/-- 'laws.FnExactCommonNotes': WHATEVER THE INPUT: true; the input reads as it did. -/
def fnExactCommonNotesSpec : ChangeSpec := { name := "fnExactCommonNotes", fn := fun _ => fun
  | [d1, d2] => { results := [.lit (.bool true)], args := [d1, d2] }
  | _ => none }
def fnExactCommonNotesRow : OpenClaim := { program := "ytkibfahlfnaeoaa", sum := "7a62a9c25272cc7953b9f5d521cf6bd2f2489b355079005dcea9a7d43f82ddd5", func := "loop.example/g01311/laws.FnExactCommonNotes", spec := "fnExactCommonNotes", unfollowed := true, recurses := true, apart := false }
def FnExactCommonNotesSaid : Prop := fnExactCommonNotesRow.holds Try.pinned (OpenSpec.ofChange fnExactCommonNotesSpec)

/-- ITS FALSE NEIGHBOUR: 'it returns false'. Refute it at one input. -/
def fnExactCommonNotesWrong : ChangeSpec := { name := "fnExactCommonNotes", fn := fun _ => fun
  | [d1, d2] => { results := [.lit (.bool false)], args := [d1, d2] }
  | _ => none }
def FnExactCommonNotesWrongFalsely : Prop := fnExactCommonNotesRow.holds Try.pinned (OpenSpec.ofChange fnExactCommonNotesWrong)

/- THE SECOND FORM. 'bulk': how many values and letters a reading holds, each counted each time it is reached (what is shared counts as often as it is met; a slice's spare places count too). A statement '..UptoSaid' is the law's where the arguments, and the package variables that the reading takes, are together of bulk at most 1048576: NARROWER than '..Said'. Prove '..Said' where nothing that the law and all that it calls make is longer than what came in: it says more and counts as full. Else prove '..UptoSaid'. A law counts once. -/
mutual
def uptoBulk {H : Type} : DataW H → Nat
  | .lit (.string bytes) => bytes.length + 1
  | .lit _ => 1
  | .nil => 1
  | .ptr d => uptoBulk d + 1
  | .slice elems spare => uptoBulkAll elems + uptoBulkAll spare + 1
  | .agg parts => uptoBulkAll parts + 1
  | .iface _ d => uptoBulk d + 1
  | .map entries => uptoBulkEntries entries + 1
  | .held _ => 1
def uptoBulkAll {H : Type} : List (DataW H) → Nat
  | [] => 0
  | d :: r => uptoBulk d + uptoBulkAll r
def uptoBulkEntries {H : Type} : List (Lit × DataW H) → Nat
  | [] => 0
  | x :: r => uptoBulkEntry x + uptoBulkEntries r
def uptoBulkEntry {H : Type} : Lit × DataW H → Nat
  | (.string bytes, d) => bytes.length + uptoBulk d + 1
  | (_, d) => uptoBulk d + 1
 end
def uptoSmall : (H : Type) → List (DataW H) → Bool := fun _ ds => decide (uptoBulkAll ds ≤ 1048576)
def OpenSpec.upto (s : _root_.Go.ChangeSpec) : _root_.Go.OpenSpec := { _root_.Go.OpenSpec.ofChange s with cond := some uptoSmall }

/-- 'laws.FnExactConstants', WHERE WHAT IT READS IS OF BULK AT MOST 1048576: true; the input reads as it did. -/
def fnExactConstantsUptoRow : OpenClaim := { program := "ytkibfahlfnaeoaa", sum := "7a62a9c25272cc7953b9f5d521cf6bd2f2489b355079005dcea9a7d43f82ddd5", func := "loop.example/g01311/laws.FnExactConstants", spec := "fnExactConstants", apart := false, narrowed := true }
def FnExactConstantsUptoSaid : Prop := fnExactConstantsUptoRow.holds Try.pinned (OpenSpec.upto fnExactConstantsSpec)

/-- 'laws.FnExactCodeName', WHERE WHAT IT READS IS OF BULK AT MOST 1048576: true; the input reads as it did. -/
def fnExactCodeNameUptoRow : OpenClaim := { program := "ytkibfahlfnaeoaa", sum := "7a62a9c25272cc7953b9f5d521cf6bd2f2489b355079005dcea9a7d43f82ddd5", func := "loop.example/g01311/laws.FnExactCodeName", spec := "fnExactCodeName", apart := false, narrowed := true }
def FnExactCodeNameUptoSaid : Prop := fnExactCodeNameUptoRow.holds Try.pinned (OpenSpec.upto fnExactCodeNameSpec)

/-- 'laws.FnExactSameTune', WHERE WHAT IT READS IS OF BULK AT MOST 1048576: true; the input reads as it did. -/
def fnExactSameTuneUptoRow : OpenClaim := { program := "ytkibfahlfnaeoaa", sum := "7a62a9c25272cc7953b9f5d521cf6bd2f2489b355079005dcea9a7d43f82ddd5", func := "loop.example/g01311/laws.FnExactSameTune", spec := "fnExactSameTune", apart := false, narrowed := true }
def FnExactSameTuneUptoSaid : Prop := fnExactSameTuneUptoRow.holds Try.pinned (OpenSpec.upto fnExactSameTuneSpec)

/-- 'laws.FnExactValidTune', WHERE WHAT IT READS IS OF BULK AT MOST 1048576: true; the input reads as it did. -/
def fnExactValidTuneUptoRow : OpenClaim := { program := "ytkibfahlfnaeoaa", sum := "7a62a9c25272cc7953b9f5d521cf6bd2f2489b355079005dcea9a7d43f82ddd5", func := "loop.example/g01311/laws.FnExactValidTune", spec := "fnExactValidTune", apart := false, narrowed := true }
def FnExactValidTuneUptoSaid : Prop := fnExactValidTuneUptoRow.holds Try.pinned (OpenSpec.upto fnExactValidTuneSpec)

/-- 'laws.FnExactLengthOf', WHERE WHAT IT READS IS OF BULK AT MOST 1048576: true; the input reads as it did. -/
def fnExactLengthOfUptoRow : OpenClaim := { program := "ytkibfahlfnaeoaa", sum := "7a62a9c25272cc7953b9f5d521cf6bd2f2489b355079005dcea9a7d43f82ddd5", func := "loop.example/g01311/laws.FnExactLengthOf", spec := "fnExactLengthOf", unfollowed := true, recurses := true, apart := false, narrowed := true }
def FnExactLengthOfUptoSaid : Prop := fnExactLengthOfUptoRow.holds Try.pinned (OpenSpec.upto fnExactLengthOfSpec)

/-- 'laws.FnExactMissingFor', WHERE WHAT IT READS IS OF BULK AT MOST 1048576: true; the input reads as it did. -/
def fnExactMissingForUptoRow : OpenClaim := { program := "ytkibfahlfnaeoaa", sum := "7a62a9c25272cc7953b9f5d521cf6bd2f2489b355079005dcea9a7d43f82ddd5", func := "loop.example/g01311/laws.FnExactMissingFor", spec := "fnExactMissingFor", unfollowed := true, recurses := true, apart := false, narrowed := true }
def FnExactMissingForUptoSaid : Prop := fnExactMissingForUptoRow.holds Try.pinned (OpenSpec.upto fnExactMissingForSpec)

/-- 'laws.FnExactPitchesOf', WHERE WHAT IT READS IS OF BULK AT MOST 1048576: true; the input reads as it did. -/
def fnExactPitchesOfUptoRow : OpenClaim := { program := "ytkibfahlfnaeoaa", sum := "7a62a9c25272cc7953b9f5d521cf6bd2f2489b355079005dcea9a7d43f82ddd5", func := "loop.example/g01311/laws.FnExactPitchesOf", spec := "fnExactPitchesOf", unfollowed := true, recurses := true, apart := false, narrowed := true }
def FnExactPitchesOfUptoSaid : Prop := fnExactPitchesOfUptoRow.holds Try.pinned (OpenSpec.upto fnExactPitchesOfSpec)

/-- 'laws.FnExactCanPlay', WHERE WHAT IT READS IS OF BULK AT MOST 1048576: true; the input reads as it did. -/
def fnExactCanPlayUptoRow : OpenClaim := { program := "ytkibfahlfnaeoaa", sum := "7a62a9c25272cc7953b9f5d521cf6bd2f2489b355079005dcea9a7d43f82ddd5", func := "loop.example/g01311/laws.FnExactCanPlay", spec := "fnExactCanPlay", unfollowed := true, recurses := true, apart := false, narrowed := true }
def FnExactCanPlayUptoSaid : Prop := fnExactCanPlayUptoRow.holds Try.pinned (OpenSpec.upto fnExactCanPlaySpec)

/-- 'laws.FnExactLeastGap', WHERE WHAT IT READS IS OF BULK AT MOST 1048576: true; the input reads as it did. -/
def fnExactLeastGapUptoRow : OpenClaim := { program := "ytkibfahlfnaeoaa", sum := "7a62a9c25272cc7953b9f5d521cf6bd2f2489b355079005dcea9a7d43f82ddd5", func := "loop.example/g01311/laws.FnExactLeastGap", spec := "fnExactLeastGap", unfollowed := true, recurses := true, apart := false, narrowed := true }
def FnExactLeastGapUptoSaid : Prop := fnExactLeastGapUptoRow.holds Try.pinned (OpenSpec.upto fnExactLeastGapSpec)

/-- 'laws.FnExactLoudestStep', WHERE WHAT IT READS IS OF BULK AT MOST 1048576: true; the input reads as it did. -/
def fnExactLoudestStepUptoRow : OpenClaim := { program := "ytkibfahlfnaeoaa", sum := "7a62a9c25272cc7953b9f5d521cf6bd2f2489b355079005dcea9a7d43f82ddd5", func := "loop.example/g01311/laws.FnExactLoudestStep", spec := "fnExactLoudestStep", unfollowed := true, recurses := true, apart := false, narrowed := true }
def FnExactLoudestStepUptoSaid : Prop := fnExactLoudestStepUptoRow.holds Try.pinned (OpenSpec.upto fnExactLoudestStepSpec)

/-- 'laws.FnExactCutTune', WHERE WHAT IT READS IS OF BULK AT MOST 1048576: true; the input reads as it did. -/
def fnExactCutTuneUptoRow : OpenClaim := { program := "ytkibfahlfnaeoaa", sum := "7a62a9c25272cc7953b9f5d521cf6bd2f2489b355079005dcea9a7d43f82ddd5", func := "loop.example/g01311/laws.FnExactCutTune", spec := "fnExactCutTune", unfollowed := true, recurses := true, apart := false, narrowed := true }
def FnExactCutTuneUptoSaid : Prop := fnExactCutTuneUptoRow.holds Try.pinned (OpenSpec.upto fnExactCutTuneSpec)

/-- 'laws.FnExactCommonNotes', WHERE WHAT IT READS IS OF BULK AT MOST 1048576: true; the input reads as it did. -/
def fnExactCommonNotesUptoRow : OpenClaim := { program := "ytkibfahlfnaeoaa", sum := "7a62a9c25272cc7953b9f5d521cf6bd2f2489b355079005dcea9a7d43f82ddd5", func := "loop.example/g01311/laws.FnExactCommonNotes", spec := "fnExactCommonNotes", unfollowed := true, recurses := true, apart := false, narrowed := true }
def FnExactCommonNotesUptoSaid : Prop := fnExactCommonNotesUptoRow.holds Try.pinned (OpenSpec.upto fnExactCommonNotesSpec)

end Rows
end Go.Proofs.Ytkibfahlfnaeoaa
