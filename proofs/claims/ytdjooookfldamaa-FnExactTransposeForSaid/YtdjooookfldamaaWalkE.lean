/-
  The walks of equality, length and pitches of tunes, in the reference and in the program.
-/
import Derived.Test.YtdjooookfldamaaWalkC
namespace Go.Proofs.Ytdjooookfldamaa
open Go.RowKit
set_option linter.unusedVariables false
set_option linter.unusedSimpArgs false




theorem c_l01Pitches (A : Option Addr) (c : Nat) (l : List (Int × Int)) (w : World) (h : At2 .i16 .i8 w A l) (hw : okT l = true) (hn : l.length ≤ 1073741824) :
    Calls Try.prog 33 #[.slice A l.length c] w fun e w' => e = .returned (.int .u64 (pitchesL l)) ∧ w = w' := by
  have hu := Try.underlying45
  go_enter Try.func33, Try.ntmps33
  go_wp2
  go_loopw [3, 4] (fun q i w' => ∃ k : Nat, i = .int .i64 k ∧ k ≤ l.length ∧ q = .int .u64 (pitchesL (l.take k)) ∧ w = w') (fun _ i _ => l.length - (intOf i).toNat)
  case atStart => exact ⟨0, rfl, by omega, by simp [pitchesL], rfl⟩
  case round =>
    obtain ⟨k, rfl, hk, rfl, rfl⟩ := hrel
    by_cases hlt : k < l.length
    · obtain ⟨b, off, rfl, hbl, hc⟩ := h.get (by omega)
      have x1 := (hc k hlt).1
      have x2 := (hc k hlt).2
      clear hc
      obtain ⟨n1, n2, n3, n4⟩ := okT_note hw hlt
      go_wp2
      go_roundw
      case rel => exact ⟨k + 1, by go_num, by omega, by rw [pitchesL_snoc l k hlt], by first | rfl | trivial⟩
      case measure => simp [intOf]; omega
    · obtain rfl : k = l.length := by omega
      go_wp2
      go_ret
      exact ⟨ret_int (by rw [List.take_length]), rfl⟩

theorem c_pitches (A : Option Addr) (c : Nat) (l : List (Int × Int)) (w : World) (h : At2 .i16 .i8 w A l) (hw : okT l = true) (hn : l.length ≤ 1073741824) :
    Calls Try.prog 34 #[.slice A l.length c] w fun e w' => e = .returned (.int .u64 (pitchesL l)) ∧ Below w.heap.size w w' := by
  have hu := Try.underlying45
  go_enter Try.func34, Try.ntmps34
  go_wp2
  go_loopw [3, 8] (fun q i w' => ∃ k : Nat, i = .int .i64 k ∧ k ≤ l.length ∧ q = .int .u64 (pitchesL (l.take k)) ∧ Below w.heap.size w w') (fun _ i _ => l.length - (intOf i).toNat)
  case atStart => exact ⟨0, rfl, by omega, by simp [pitchesL], Below.refl _ _⟩
  case round =>
    obtain ⟨k, rfl, hk, rfl, hb⟩ := hrel
    by_cases hlt : k < l.length
    · obtain ⟨b, off, rfl, hbl, hc⟩ := (h.below hb).get (by omega)
      have x1 := (hc k hlt).1
      have x2 := (hc k hlt).2
      clear hc
      obtain ⟨n1, n2, n3, n4⟩ := okT_note hw hlt
      go_wp2
      go_roundw
      case rel => exact ⟨k + 1, by go_num, by omega, by rw [pitchesL_snoc l k hlt], balloc hb _⟩
      case measure => simp [intOf]; omega
    · obtain rfl : k = l.length := by omega
      go_wp2
      go_ret
      exact ⟨ret_int (by rw [List.take_length]), hb⟩

/-! ### the exported functions -/



end Go.Proofs.Ytdjooookfldamaa
