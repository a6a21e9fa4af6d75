/-
  The walks of FreePlaces and FreeTracks, in the reference and in the program.
-/
import Derived.Test.YtnakdlfjjeligaaGreatWalkDY
namespace Go.Proofs.YtnakdlfjjeligaaGreat
open Go.RowKit
set_option linter.unusedVariables false
set_option linter.unusedSimpArgs false
set_option maxRecDepth 4000

/-- The free places of a track: none where the place is not one of the frame. -/
noncomputable def rFree (s : Int) (l : List (Int × Int)) (d : List Int) (t : Int) : List Int := if cP s l d 0 t = 0 then frL d s.toNat l t.toNat s.toNat else []
theorem rFree_len (s : Int) (l : List (Int × Int)) (d : List Int) (t : Int) : (rFree s l d t).length ≤ 96 := by
  unfold rFree
  split
  · rename_i hx
    obtain ⟨hf, _⟩ := cP_zero hx
    obtain ⟨⟨s1, s2⟩, _⟩ := okF_iff.1 hf
    have := frL_len d s.toNat l t.toNat s.toNat
    omega
  · simp



end Go.Proofs.YtnakdlfjjeligaaGreat
