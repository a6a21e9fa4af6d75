/-
  The reference's sort: notes put into their places one by one.
-/
import Derived.Test.YtjcbailckchnoaaGreatDoorWalkB
import Derived.Test.YtjcbailckchnoaaGreatDoorWalkD
import Derived.Test.YtjcbailckchnoaaGreatDoorPure
import Derived.Test.YtjcbailckchnoaaGreatDoorData
namespace Go.Proofs.YtjcbailckchnoaaGreatDoor
open Go.RowKit
set_option linter.unusedVariables false
set_option linter.unusedSimpArgs false
set_option maxRecDepth 4000


end Go.Proofs.YtjcbailckchnoaaGreatDoor
