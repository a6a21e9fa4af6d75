/-
  The walks of equality, length and pitches of tunes, in the reference and in the program.
-/
import Derived.Test.YtkooeikcmnkgmaaWalkC
namespace Go.Proofs.Ytkooeikcmnkgmaa
open Go.RowKit
set_option linter.unusedVariables false
set_option linter.unusedSimpArgs false


theorem c_l01Length (A : Option Addr) (c : Nat) (l : List (Int × Int)) (w : World) (h : At2 .i16 .i8 w A l) (hw : Wf l) (hn : l.length ≤ 1073741824) :
    Calls Try.prog 48 #[.slice A l.length c] w fun e w' => e = .returned (.int .i64 (lengthL l)) ∧ w = w' := by
  have hu := Try.underlying62
  by_cases hz : 0 < l.length
  · have hk1 := hw.get (i := l.length - 1) (by omega)
    obtain ⟨h1, h2, h3, h4⟩ := hk1
    obtain ⟨b, off, rfl, hbl, hc⟩ := h.get hz
    have x1 := (hc (l.length - 1) (by omega)).1
    have x2 := (hc (l.length - 1) (by omega)).2
    clear hc
    have hw1 : IntKind.i64.wrap ((l.length:Int) - 1) = (l.length:Int) - 1 := IntWalk.i64_in _ (by omega)
    have hw2 : (0:Int) ≤ (l.length:Int) - 1 := by omega
    have hw3 : ((l.length:Int) - 1).toNat = l.length - 1 := by omega
    have hz1 : ((l.length : Int) == 0) = false := beq_eq_false_iff_ne.2 (by omega)
    go_enter Try.func48, Try.ntmps48
    go_wp2
    go_ret
    exact ⟨ret_int (lengthL_last hz).symm, rfl⟩
  · have hz1 : ((l.length : Int) == 0) = true := beq_iff_eq.2 (by omega)
    go_enter Try.func48, Try.ntmps48
    go_wp2
    go_ret
    exact ⟨ret_int (lengthL_nil hz).symm, rfl⟩

theorem c_length (A : Option Addr) (c : Nat) (l : List (Int × Int)) (w : World) (h : At2 .i16 .i8 w A l) (hw : Wf l) (hn : l.length ≤ 1073741824) :
    Calls Try.prog 52 #[.slice A l.length c] w fun e w' => e = .returned (.int .i64 (lengthL l)) ∧ w = w' := by
  have hu := Try.underlying62
  by_cases hz : 0 < l.length
  · have hk1 := hw.get (i := l.length - 1) (by omega)
    obtain ⟨h1, h2, h3, h4⟩ := hk1
    obtain ⟨b, off, rfl, hbl, hc⟩ := h.get hz
    have x1 := (hc (l.length - 1) (by omega)).1
    have x2 := (hc (l.length - 1) (by omega)).2
    clear hc
    have hw1 : IntKind.i64.wrap ((l.length:Int) - 1) = (l.length:Int) - 1 := IntWalk.i64_in _ (by omega)
    have hw2 : (0:Int) ≤ (l.length:Int) - 1 := by omega
    have hw3 : ((l.length:Int) - 1).toNat = l.length - 1 := by omega
    have hz1 : ((l.length : Int) == 0) = false := beq_eq_false_iff_ne.2 (by omega)
    go_enter Try.func52, Try.ntmps52
    go_wp2
    go_ret
    exact ⟨ret_int (lengthL_last hz).symm, rfl⟩
  · have hz1 : ((l.length : Int) == 0) = true := beq_iff_eq.2 (by omega)
    go_enter Try.func52, Try.ntmps52
    go_wp2
    go_ret
    exact ⟨ret_int (lengthL_nil hz).symm, rfl⟩



/-! ### the exported functions -/



end Go.Proofs.Ytkooeikcmnkgmaa
