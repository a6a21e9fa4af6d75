/-
  The walks of equality, length and pitches of tunes, in the reference and in the program.
-/
import Derived.Test.YtjcbailckchnoaaGreatDoorWalkC
namespace Go.Proofs.YtjcbailckchnoaaGreatDoor
open Go.RowKit
set_option linter.unusedVariables false
set_option linter.unusedSimpArgs false
set_option maxRecDepth 4000






/-! ### the exported functions -/



end Go.Proofs.YtjcbailckchnoaaGreatDoor
