/-
  The walks of the law's own helpers on hammers and frames, and of the test whether a frame is valid.
-/
import Derived.Test.YtnakdlfjjeligaaGreatWalkA
import Derived.Test.YtnakdlfjjeligaaGreatData
namespace Go.Proofs.YtnakdlfjjeligaaGreat
open Go.RowKit
set_option linter.unusedVariables false
set_option linter.unusedSimpArgs false
set_option maxRecDepth 4000

theorem info_Hammer : (Tryz.prog.info? 56).map (fun i => (i.zero, i.size, i.bytes)) = some (some (.agg #[.int .i8 0, .int .i8 0]), 2, 2) := by kernel_rfl









end Go.Proofs.YtnakdlfjjeligaaGreat
