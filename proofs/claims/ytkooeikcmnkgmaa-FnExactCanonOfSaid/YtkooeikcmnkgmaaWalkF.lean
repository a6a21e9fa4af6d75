/-
  The walks of CutTune, in the reference and in the program.
-/
import Derived.Test.YtkooeikcmnkgmaaWalkC
import Derived.Test.YtkooeikcmnkgmaaWalkD
namespace Go.Proofs.Ytkooeikcmnkgmaa
open Go.RowKit
set_option linter.unusedVariables false
set_option linter.unusedSimpArgs false



end Go.Proofs.Ytkooeikcmnkgmaa
