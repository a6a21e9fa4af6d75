/-
  The walks of the law's own helpers on drums: copy, equality.
-/
import Derived.Test.YtnakdlfjjeligaaGreatWalkA
import Derived.Test.YtnakdlfjjeligaaGreatData
namespace Go.Proofs.YtnakdlfjjeligaaGreat
open Go.RowKit
set_option linter.unusedVariables false
set_option linter.unusedSimpArgs false
set_option maxRecDepth 4000

theorem zero_Drum : (Tryz.prog.info? 31).map (·.zero) = some (some (.agg (drumV zD))) := by
  unfold drumV; rw [zD_eq]; kernel_rfl
theorem size_Drum : (Tryz.prog.info? 31).map (·.size) = some 96 := by kernel_rfl

theorem size_u32 : (Tryz.prog.info? 29).map (·.size) = some 1 := by kernel_rfl


theorem eqD_at {d e : List Int} {k : Nat} (h1 : k < d.length) (h2 : k < e.length) (h : ¬ d[k] = e[k]) : decide (d = e) = false := by
  rw [decide_eq_false_iff_not]; rintro rfl; exact h rfl
theorem eqD_all {d e : List Int} (hl : d.length = e.length) (h : ∀ i (h1 : i < d.length) (h2 : i < e.length), d[i] = e[i]) : decide (d = e) = true := by
  rw [decide_eq_true_eq]; exact List.ext_getElem hl h


end Go.Proofs.YtnakdlfjjeligaaGreat
