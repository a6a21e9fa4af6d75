/-
  The walks of the law's own helpers on lists of notes: size, copy, equality, marks.
-/
import Derived.Test.YtbdopmcjoncelaaGreatDoorWalkD
namespace Go.Proofs.YtbdopmcjoncelaaGreatDoor
open Go.RowKit
set_option linter.unusedVariables false
set_option linter.unusedSimpArgs false
set_option maxRecDepth 4000





end Go.Proofs.YtbdopmcjoncelaaGreatDoor
