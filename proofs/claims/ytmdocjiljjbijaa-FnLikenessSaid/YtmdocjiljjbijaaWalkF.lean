/-
  The walks of CutTune, in the reference and in the program.
-/
import Derived.Test.YtmdocjiljjbijaaWalkC
import Derived.Test.YtmdocjiljjbijaaWalkD
namespace Go.Proofs.Ytmdocjiljjbijaa
open Go.RowKit
set_option linter.unusedVariables false
set_option linter.unusedSimpArgs false
set_option maxRecDepth 4000



end Go.Proofs.Ytmdocjiljjbijaa
