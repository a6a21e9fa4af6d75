/-
  The walks of the notes that two tunes have in common: the search, the counts, in the reference and in the program.
-/
import Derived.Test.YtbdopmcjoncelaaGreatDoorWalkC
import Derived.Test.YtbdopmcjoncelaaGreatDoorPure
namespace Go.Proofs.YtbdopmcjoncelaaGreatDoor
open Go.RowKit
set_option linter.unusedVariables false
set_option linter.unusedSimpArgs false
set_option maxRecDepth 4000




end Go.Proofs.YtbdopmcjoncelaaGreatDoor
