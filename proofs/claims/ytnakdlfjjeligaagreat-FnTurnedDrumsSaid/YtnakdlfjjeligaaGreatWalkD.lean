/-
  The walks of the law's own helpers on notes: size, copy, equality, marks.
-/
import Derived.Test.YtnakdlfjjeligaaGreatWalkA
namespace Go.Proofs.YtnakdlfjjeligaaGreat
open Go.RowKit
set_option linter.unusedVariables false
set_option linter.unusedSimpArgs false
set_option maxRecDepth 4000

theorem info_Note : (Tryz.prog.info? 111).map (fun i => (i.zero, i.size, i.bytes)) = some (some (.agg #[.int .i16 0, .int .i8 0]), 2, 4) := by kernel_rfl







end Go.Proofs.YtnakdlfjjeligaaGreat
