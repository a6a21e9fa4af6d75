/-
  The walks of the law's own functions on slices of numbers: equality, marking; and the marking of a frame.
-/
import Derived.Test.YtnakdlfjjeligaaGreatWalkDA
import Derived.Test.YtnakdlfjjeligaaGreatData
namespace Go.Proofs.YtnakdlfjjeligaaGreat
open Go.RowKit
set_option linter.unusedVariables false
set_option linter.unusedSimpArgs false
set_option maxRecDepth 4000

theorem info_i64 : (Tryz.prog.info? 2).map (fun i => (i.zero, i.size, i.bytes)) = some (some (.int .i64 0), 1, 8) := by kernel_rfl




end Go.Proofs.YtnakdlfjjeligaaGreat
