/-
  The walks of CountPins.
-/
import Derived.Test.YtnakdlfjjeligaaGreatWalkDK
namespace Go.Proofs.YtnakdlfjjeligaaGreat
open Go.RowKit
set_option linter.unusedVariables false
set_option linter.unusedSimpArgs false
set_option maxRecDepth 4000

theorem cD_of (s : Int) (l : List (Int × Int)) (d : List Int) : cD s l d = if vD s l d then 0 else 1 := rfl



end Go.Proofs.YtnakdlfjjeligaaGreat
