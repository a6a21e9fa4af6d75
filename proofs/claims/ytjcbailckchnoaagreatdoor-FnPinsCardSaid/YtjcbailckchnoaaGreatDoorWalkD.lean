/-
  The walks of the law's own helpers on notes: size, copy, equality, marks.
-/
import Derived.Test.YtjcbailckchnoaaGreatDoorWalkA
namespace Go.Proofs.YtjcbailckchnoaaGreatDoor
open Go.RowKit
set_option linter.unusedVariables false
set_option linter.unusedSimpArgs false
set_option maxRecDepth 4000








end Go.Proofs.YtjcbailckchnoaaGreatDoor
