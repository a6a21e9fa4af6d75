/-
  The walks of the small functions on notes and tunes: each call returns what the plain function says; old memory is as it was.
-/
import Derived.Test.YtnakdlfjjeligaaGreatChecked
import Derived.Test.YtnakdlfjjeligaaGreatData
import Derived.Test.YtnakdlfjjeligaaGreatPure
namespace Go.Proofs.YtnakdlfjjeligaaGreat
open Go.RowKit
set_option linter.unusedVariables false
set_option linter.unusedSimpArgs false

theorem c_within (a b c : Int) (w : World) :
    Calls Tryz.prog 74 #[.int .i64 a, .int .i64 b, .int .i64 c] w fun e w' => e = .returned (.bool (inB a b c)) ∧ w = w' := by
  unfold inB
  by_cases h1 : b ≤ a <;> by_cases h2 : a ≤ c
  all_goals
    go_enter Tryz.func74, Tryz.ntmps74
    go_wp2
    go_ret
    exact ⟨ret_bool (by simp [h1, h2]), rfl⟩

theorem c_l00In (a b c : Int) (w : World) :
    Calls Tryz.prog 57 #[.int .i64 a, .int .i64 b, .int .i64 c] w fun e w' => e = .returned (.bool (inB a b c)) ∧ w = w' := by
  unfold inB
  by_cases h1 : b ≤ a <;> by_cases h2 : a ≤ c
  all_goals
    go_enter Tryz.func57, Tryz.ntmps57
    go_wp2
    go_ret
    exact ⟨ret_bool (by simp [h1, h2]), rfl⟩

theorem c_isPitch (a : Int) (w : World) :
    Calls Tryz.prog 53 #[.int .i64 a] w fun e w' => e = .returned (.bool (inB a 0 47)) ∧ w = w' := by
  go_enter Tryz.func53, Tryz.ntmps53
  go_wp2_with (go_at_call 74; refine (c_within _ _ _ _).mono ?_; rintro e w' ⟨rfl, rfl⟩)
  go_ret
  exact ⟨rfl, rfl⟩

theorem c_isNote (p : Int × Int) (w : World) (hp : Wn p) :
    Calls Tryz.prog 91 #[.agg #[.int .i16 p.1, .int .i8 p.2]] w fun e w' => e = .returned (.bool (okN p)) ∧ Below w.heap.size w w' := by
  obtain ⟨h1, h2, h3, h4⟩ := hp
  unfold okN
  rcases e1 : inB p.1 0 199 with _ | _
  all_goals
    go_enter Tryz.func91, Tryz.ntmps91
    go_wp2_with (first | (go_at_call 74; refine (c_within _ _ _ _).mono ?_; rintro e w' ⟨rfl, rfl⟩) | (go_at_call 53; refine (c_isPitch _ _).mono ?_; rintro e w' ⟨rfl, rfl⟩))
    go_ret
    exact ⟨by first | rfl | simp, balloc (Below.refl _ _) _⟩

theorem c_l01Note (p : Int × Int) (w : World) (hp : Wn p) :
    Calls Tryz.prog 83 #[.agg #[.int .i16 p.1, .int .i8 p.2]] w fun e w' => e = .returned (.bool (okN p)) ∧ Below w.heap.size w w' := by
  obtain ⟨h1, h2, h3, h4⟩ := hp
  unfold okN
  rcases e1 : inB p.1 0 199 with _ | _
  all_goals
    go_enter Tryz.func83, Tryz.ntmps83
    go_wp2_with (go_at_call 57; refine (c_l00In _ _ _ _).mono ?_; rintro e w' ⟨rfl, rfl⟩)
    go_ret
    exact ⟨by first | rfl | simp, balloc (Below.refl _ _) _⟩

theorem c_l01Before (a b : Int × Int) (w : World) :
    Calls Tryz.prog 84 #[.agg #[.int .i16 a.1, .int .i8 a.2], .agg #[.int .i16 b.1, .int .i8 b.2]] w fun e w' => e = .returned (.bool (ltN a b)) ∧ Below w.heap.size w w' := by
  unfold ltN
  by_cases h1 : a.1 < b.1 <;> by_cases h2 : a.1 = b.1 <;> by_cases h3 : a.2 < b.2
  all_goals (try (exfalso; omega))
  all_goals
    go_enter Tryz.func84, Tryz.ntmps84
    go_wp2
    go_ret
    exact ⟨ret_bool (by simp [h1, h2, h3]), balloc (balloc (Below.refl _ _) _) _⟩

end Go.Proofs.YtnakdlfjjeligaaGreat
