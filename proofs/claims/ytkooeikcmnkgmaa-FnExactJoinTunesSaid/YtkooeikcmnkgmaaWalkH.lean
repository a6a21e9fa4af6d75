/-
  The walks of the notes that two tunes have in common: the search, the counts, in the reference and in the program.
-/
import Derived.Test.YtkooeikcmnkgmaaWalkC
import Derived.Test.YtkooeikcmnkgmaaPureB
namespace Go.Proofs.Ytkooeikcmnkgmaa
open Go.RowKit
set_option linter.unusedVariables false
set_option linter.unusedSimpArgs false


theorem c_l01Both (A B : Option Addr) (c d : Nat) (l m : List (Int × Int)) (w : World) (h : At2 .i16 .i8 w A l) (h2 : At2 .i16 .i8 w B m) (hw : Wf l) (hw2 : Wf m) (hn : l.length ≤ 1073741824) (hn2 : m.length ≤ 1073741824) :
    Calls Try.prog 58 #[.slice A l.length c, .slice B m.length d] w fun e w' => e = .returned (.int .i64 (cTT l m)) ∧ Below w.heap.size w w' := by
  rcases hok : okT l with _ | _
  · have hcc : cTT l m = 1 := by simp [cTT, hok]
    have HC := Lib.hid hcc; clear hcc
    go_enter Try.func58, Try.ntmps58
    go_wp2_with fail
    refine (c_l01Ok A c l w h hw hn).mono ?_
    rintro e w1 ⟨rfl, b1⟩
    go_wp2
    go_ret
    exact ⟨ret_int HC.out.symm, b1⟩
  · rcases hok2 : okT m with _ | _
    · have hcc : cTT l m = 1 := by simp [cTT, hok, hok2]
      have HC := Lib.hid hcc; clear hcc
      go_enter Try.func58, Try.ntmps58
      go_wp2_with fail
      refine (c_l01Ok A c l w h hw hn).mono ?_
      rintro e w1 ⟨rfl, b1⟩
      go_wp2_with fail
      refine (c_l01Ok B d m w1 (h2.below b1) hw2 hn2).mono ?_
      rintro e w2 ⟨rfl, b2⟩
      go_wp2
      go_ret
      exact ⟨ret_int HC.out.symm, bstep b1 b2⟩
    · have hcc : cTT l m = 0 := by simp [cTT, hok, hok2]
      have HC := Lib.hid hcc; clear hcc
      go_enter Try.func58, Try.ntmps58
      go_wp2_with fail
      refine (c_l01Ok A c l w h hw hn).mono ?_
      rintro e w1 ⟨rfl, b1⟩
      go_wp2_with fail
      refine (c_l01Ok B d m w1 (h2.below b1) hw2 hn2).mono ?_
      rintro e w2 ⟨rfl, b2⟩
      go_wp2
      go_ret
      exact ⟨ret_int HC.out.symm, bstep b1 b2⟩


end Go.Proofs.Ytkooeikcmnkgmaa
