/-
  MoveTune and Transpose, in the reference and in the program.
-/
import Derived.Test.YtkooeikcmnkgmaaWalkM
import Derived.Test.YtkooeikcmnkgmaaWalkF
namespace Go.Proofs.Ytkooeikcmnkgmaa
open Go.RowKit
set_option linter.unusedVariables false
set_option linter.unusedSimpArgs false
set_option maxRecDepth 4000

theorem cMove_ok {l : List (Int × Int)} {bad : Int} {g : Int × Int → Int × Int} (h : okT l = true) : cMove l true bad g = (if movB g l then 0 else 4) := by simp [cMove, h]
theorem cMove_bad {l : List (Int × Int)} {bad : Int} {g : Int × Int → Int × Int} (h : okT l = true) : cMove l false bad g = bad := by simp [cMove, h]
theorem cMove_no {l : List (Int × Int)} {b : Bool} {bad : Int} {g : Int × Int → Int × Int} (h : okT l = false) : cMove l b bad g = 1 := by simp [cMove, h]
theorem rMove_ok {bad : Int} {l : List (Int × Int)} {g : Int × Int → Int × Int} (h : okT l = true) : rMove l true bad g = movR g l := by simp [rMove, h]
theorem rMove_bad {bad : Int} {l : List (Int × Int)} {g : Int × Int → Int × Int} : rMove l false bad g = [] := by simp [rMove]
theorem rMove_no {bad : Int} {l : List (Int × Int)} {b : Bool} {g : Int × Int → Int × Int} (h : okT l = false) : rMove l b bad g = [] := by simp [rMove, h]



end Go.Proofs.Ytkooeikcmnkgmaa
