/-
  The walks of CutTune, in the reference and in the program.
-/
import Derived.Test.YtdjooookfldamaaWalkC
import Derived.Test.YtdjooookfldamaaWalkD
namespace Go.Proofs.Ytdjooookfldamaa
open Go.RowKit
set_option linter.unusedVariables false
set_option linter.unusedSimpArgs false



end Go.Proofs.Ytdjooookfldamaa
