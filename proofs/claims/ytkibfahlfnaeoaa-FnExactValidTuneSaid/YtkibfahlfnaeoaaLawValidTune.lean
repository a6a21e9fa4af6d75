/-
  The law FnExactValidTune: the walk of the law's own function.
-/
import Derived.Test.YtkibfahlfnaeoaaWalkC
import Derived.Test.YtkibfahlfnaeoaaWalkD
namespace Go.Proofs.Ytkibfahlfnaeoaa
open Go.RowKit
set_option linter.unusedVariables false
set_option linter.unusedSimpArgs false

theorem szI_small {n : Nat} (h : n ≤ 1048576) : szI 1048576 n = 1048576 - (n : Int) := by unfold szI; split <;> omega
theorem szI_big {n : Nat} (h : ¬ n ≤ 1048576) : szI 1048576 n = -1 := by unfold szI; split <;> omega

theorem law_ValidTune (A : Option Addr) (c : Nat) (l : List (Int × Int)) (w : World) (h : At2 .i16 .i8 w A l) (hw : Wf l) (hn : l.length ≤ 9223372036854775807) :
    Calls Try.prog 6 #[.slice A l.length c] w fun e w' => e = .returned (.bool true) ∧ Below w.heap.size w w' := by
  by_cases hL : l.length ≤ 1048576
  · have hs := szI_small hL
    have hs2 : ¬ (1048576 - (l.length : Int)) < 0 := by omega
    have hL' : l.length ≤ 1073741824 := by omega
    go_enter Try.func6, Try.ntmps6
    go_wp2_with fail
    refine (c_szTune A c l.length 1048576 w (by omega) (by omega) hn).mono ?_
    rintro e w' ⟨rfl, rfl⟩
    go_wp2_with fail
    refine (c_toTune A c l w h hL').mono ?_
    rintro e w1 ⟨v1, rfl, o1, b1⟩
    obtain ⟨A1, c1, rfl, _, r1⟩ := o1.reads
    go_wp2_with fail
    refine (c_specValidTune A1 c1 l w1 r1 hw hL').mono ?_
    rintro e w2 ⟨rfl, b2⟩
    have B2 := bstep b1 b2
    go_wp2_with fail
    refine (c_toTune A c l w2 (h.below B2) hL').mono ?_
    rintro e w3 ⟨v3, rfl, o3, b3⟩
    obtain ⟨A3, c3, rfl, _, r3⟩ := o3.reads
    have B3 := bstep B2 b3
    go_wp2_with fail
    refine (c_ValidTune A3 c3 l w3 r3 hw hL').mono ?_
    rintro e w4 ⟨rfl, b4⟩
    have B4 := bstep B3 b4
    go_wp2_with fail
    refine (c_toTune A c l w4 (h.below B4) hL').mono ?_
    rintro e w5 ⟨v5, rfl, o5, b5⟩
    obtain ⟨A5, c5, rfl, _, r5⟩ := o5.reads
    have B5 := bstep B4 b5
    go_wp2_with fail
    have hs3 := eqL_self l
    refine (c_eqTune A3 A5 c3 c5 l l w5 (r3.below (bstep b4 b5)) r5 hL' hL').mono ?_
    rintro e w6 ⟨rfl, b6⟩
    have B6 := bstep B5 b6
    go_wp2
    go_ret
    exact ⟨rfl, B6⟩
  · have hs := szI_big hL
    go_enter Try.func6, Try.ntmps6
    go_wp2_with fail
    refine (c_szTune A c l.length 1048576 w (by omega) (by omega) hn).mono ?_
    rintro e w' ⟨rfl, rfl⟩
    go_wp2
    go_ret
    exact ⟨rfl, Below.refl _ _⟩

end Go.Proofs.Ytkibfahlfnaeoaa
