/-
  The walks of the comparison of notes and of the test whether a tune is valid, in the reference and in the program.
-/
import Derived.Test.YtjcbailckchnoaaGreatDoorWalkA
namespace Go.Proofs.YtjcbailckchnoaaGreatDoor
open Go.RowKit
set_option linter.unusedVariables false
set_option linter.unusedSimpArgs false
set_option maxRecDepth 4000


/-- '!=' and '==' of two notes. -/


theorem cmpN_first (a b : Int × Int) : firstNZ [cmpI a.1 b.1, cmpI a.2 b.2] = cmpN a b := by
  simp only [firstNZ, cmpN]
  split
  · split <;> omega
  · rfl



end Go.Proofs.YtjcbailckchnoaaGreatDoor
