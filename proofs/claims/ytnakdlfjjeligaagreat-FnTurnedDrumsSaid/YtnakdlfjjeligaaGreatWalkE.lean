/-
  The walks of equality, length and pitches of tunes, in the reference and in the program.
-/
import Derived.Test.YtnakdlfjjeligaaGreatWalkC
namespace Go.Proofs.YtnakdlfjjeligaaGreat
open Go.RowKit
set_option linter.unusedVariables false
set_option linter.unusedSimpArgs false
set_option maxRecDepth 4000

theorem c_l01Same (A B : Option Addr) (c d : Nat) (l m : List (Int × Int)) (w : World) (h : At2 .i16 .i8 w A l) (h2 : At2 .i16 .i8 w B m) (hn : l.length ≤ 1073741824) (hn2 : m.length ≤ 1073741824) :
    Calls Tryz.prog 42 #[.slice A l.length c, .slice B m.length d] w fun e w' => e = .returned (.bool (eqL l m)) ∧ Below w.heap.size w w' := by
  have hu := Tryz.underlying111
  by_cases hlen : l.length = m.length
  · have HL := Lib.hid hlen
    have hlen1 : ((l.length : Int) == (m.length : Int)) = true := by simp [hlen]
    clear hlen
    go_enter Tryz.func42, Tryz.ntmps42
    go_wp2
    clear hlen1
    go_loopw [5] (fun i w' => ∃ k : Nat, i = .int .i64 k ∧ k ≤ l.length ∧ (∀ i (h1 : i < l.length) (h2 : i < m.length), i < k → eqN l[i] m[i] = true) ∧ Below w.heap.size w w') (fun i _ => l.length - (intOf i).toNat)
    case atStart => exact ⟨0, rfl, by omega, fun _ _ _ h => absurd h (by omega), Below.refl _ _⟩
    case round =>
      obtain ⟨k, rfl, hk, hz, hb⟩ := hrel
      have HZ := Lib.hid hz; clear hz
      by_cases hlt : k < l.length
      · have hlt2 : k < m.length := by have := HL.out; omega
        obtain ⟨b, off, rfl, hbl, hc⟩ := (h.below hb).get (by omega)
        obtain ⟨b2, off2, rfl, hbl2, hc2⟩ := (h2.below hb).get (by omega)
        have x1 : ∀ x : After wr, _ := fun x => (x.cell hbl).trans (hc k hlt).1
        have x2 : ∀ x : After wr, _ := fun x => (x.cell hbl).trans (hc k hlt).2
        have y1 : ∀ x : After wr, _ := fun x => (x.cell hbl2).trans (hc2 k hlt2).1
        have y2 : ∀ x : After wr, _ := fun x => (x.cell hbl2).trans (hc2 k hlt2).2
        have hi1 : (k : Int) < (m.length : Int) := by omega
        have hne := neq_note l[k] m[k]
        rcases hx : eqN l[k] m[k] with _ | _
        · go_wp2
          refine region_after (by kernel_rfl) (by kernel_rfl) ?_
          repeat (go_big_quiet_step (fail))
          refine wpQuiet_nil ?_
          rintro _ ⟨x, rfl⟩
          go_wp2
          go_ret
          exact ⟨ret_bool (eqL_at hlt hlt2 hx).symm, bstep hb x.below⟩
        · have HX := Lib.hid hx
          go_wp2
          refine region_after (by kernel_rfl) (by kernel_rfl) ?_
          repeat (go_big_quiet_step (fail))
          refine wpQuiet_nil ?_
          rintro _ ⟨x, rfl⟩
          clear hne
          go_wp2
          go_roundw
          case rel => exact ⟨k + 1, by go_num, by omega, fun i h1 h2 hik => by
            by_cases e : i = k
            · subst e; exact HX.out
            · exact HZ.out i h1 h2 (by omega), bstep hb x.below⟩
          case measure => simp [intOf]; omega
      · obtain rfl : k = l.length := by omega
        go_wp2
        go_ret
        exact ⟨ret_bool (eqL_all HL.out (fun i h1 h2 => HZ.out i h1 h2 h1)).symm, hb⟩
  · have HL := Lib.hid hlen
    have hlen1 : ((l.length : Int) == (m.length : Int)) = false := by simp; omega
    clear hlen
    go_enter Tryz.func42, Tryz.ntmps42
    go_wp2
    go_ret
    exact ⟨ret_bool (eqL_len HL.out).symm, Below.refl _ _⟩



theorem c_l01Pitches (A : Option Addr) (c : Nat) (l : List (Int × Int)) (w : World) (h : At2 .i16 .i8 w A l) (hw : okT l = true) (hn : l.length ≤ 1073741824) :
    Calls Tryz.prog 52 #[.slice A l.length c] w fun e w' => e = .returned (.int .u64 (pitchesL l)) ∧ w = w' := by
  have hu := Tryz.underlying111
  go_enter Tryz.func52, Tryz.ntmps52
  go_wp2
  go_loopw [3, 4] (fun q i w' => ∃ k : Nat, i = .int .i64 k ∧ k ≤ l.length ∧ q = .int .u64 (pitchesL (l.take k)) ∧ w = w') (fun _ i _ => l.length - (intOf i).toNat)
  case atStart => exact ⟨0, rfl, by omega, by simp [pitchesL], rfl⟩
  case round =>
    obtain ⟨k, rfl, hk, rfl, rfl⟩ := hrel
    by_cases hlt : k < l.length
    · obtain ⟨b, off, rfl, hbl, hc⟩ := h.get (by omega)
      have x1 := (hc k hlt).1
      have x2 := (hc k hlt).2
      clear hc
      obtain ⟨n1, n2, n3, n4⟩ := okT_note hw hlt
      go_wp2
      go_roundw
      case rel => exact ⟨k + 1, by go_num, by omega, by rw [pitchesL_snoc l k hlt], by first | rfl | trivial⟩
      case measure => simp [intOf]; omega
    · obtain rfl : k = l.length := by omega
      go_wp2
      go_ret
      exact ⟨ret_int (by rw [List.take_length]), rfl⟩


/-! ### the exported functions -/
theorem c_specSameTune (A B : Option Addr) (c d : Nat) (l m : List (Int × Int)) (w : World) (h : At2 .i16 .i8 w A l) (h2 : At2 .i16 .i8 w B m) (hn : l.length ≤ 1073741824) (hn2 : m.length ≤ 1073741824) :
    Calls Tryz.prog 14 #[.slice A l.length c, .slice B m.length d] w fun e w' => e = .returned (.bool (eqL l m)) ∧ Below w.heap.size w w' := by
  go_enter Tryz.func14, Tryz.ntmps14
  go_wp2_with (go_at_call 42; refine (c_l01Same A B c d l m w h h2 hn hn2).mono ?_; rintro e w' ⟨rfl, hb⟩)
  go_ret
  exact ⟨rfl, hb⟩

theorem c_specPitchesOf (A : Option Addr) (c : Nat) (l : List (Int × Int)) (w : World) (h : At2 .i16 .i8 w A l) (hw : Wf l) (hn : l.length ≤ 1073741824) :
    Calls Tryz.prog 21 #[.slice A l.length c] w fun e w' => e = .returned (.tuple #[.int .u64 (rPitchesOf l), .int .i64 (cT l)]) ∧ Below w.heap.size w w' := by
  rcases hok : okT l with _ | _
  · go_enter Tryz.func21, Tryz.ntmps21
    go_wp2_with (go_at_call 51; refine (c_l01Ok A c l w h hw hn).mono ?_; rintro e w' ⟨rfl, hb⟩)
    go_ret2
    exact ⟨by simp [cT, rPitchesOf, hok], hb⟩
  · go_enter Tryz.func21, Tryz.ntmps21
    go_wp2_with fail
    refine (c_l01Ok A c l w h hw hn).mono ?_
    rintro e w1 ⟨rfl, hb⟩
    go_wp2_with fail
    refine (c_l01Pitches A c l w1 (h.below hb) hok hn).mono ?_
    rintro e w2 ⟨rfl, rfl⟩
    go_wp2
    go_ret2
    exact ⟨by simp [cT, rPitchesOf, hok], hb⟩


end Go.Proofs.YtnakdlfjjeligaaGreat
