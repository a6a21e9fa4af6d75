/-
  The walks of the small functions on notes and tunes: each call returns what the plain function says; old memory is as it was.
-/
import Derived.Test.YtjcbailckchnoaaGreatDoorChecked
import Derived.Test.YtjcbailckchnoaaGreatDoorData
import Derived.Test.YtjcbailckchnoaaGreatDoorPure
namespace Go.Proofs.YtjcbailckchnoaaGreatDoor
open Go.RowKit
set_option linter.unusedVariables false
set_option linter.unusedSimpArgs false

theorem c_within (a b c : Int) (w : World) :
    Calls Tryz.prog 42 #[.int .i64 a, .int .i64 b, .int .i64 c] w fun e w' => e = .returned (.bool (inB a b c)) ∧ w = w' := by
  unfold inB
  by_cases h1 : b ≤ a <;> by_cases h2 : a ≤ c
  all_goals
    go_enter Tryz.func42, Tryz.ntmps42
    go_wp2
    go_ret
    exact ⟨ret_bool (by simp [h1, h2]), rfl⟩

theorem c_l00In (a b c : Int) (w : World) :
    Calls Tryz.prog 75 #[.int .i64 a, .int .i64 b, .int .i64 c] w fun e w' => e = .returned (.bool (inB a b c)) ∧ w = w' := by
  unfold inB
  by_cases h1 : b ≤ a <;> by_cases h2 : a ≤ c
  all_goals
    go_enter Tryz.func75, Tryz.ntmps75
    go_wp2
    go_ret
    exact ⟨ret_bool (by simp [h1, h2]), rfl⟩

theorem c_isPitch (a : Int) (w : World) :
    Calls Tryz.prog 45 #[.int .i64 a] w fun e w' => e = .returned (.bool (inB a 0 47)) ∧ w = w' := by
  go_enter Tryz.func45, Tryz.ntmps45
  go_wp2_with (go_at_call 42; refine (c_within _ _ _ _).mono ?_; rintro e w' ⟨rfl, rfl⟩)
  go_ret
  exact ⟨rfl, rfl⟩




end Go.Proofs.YtjcbailckchnoaaGreatDoor
