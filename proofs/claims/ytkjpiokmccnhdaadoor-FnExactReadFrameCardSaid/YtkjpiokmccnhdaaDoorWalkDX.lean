/-
  The walks of the law's own functions on slices of numbers: equality, marking; and the marking of a frame.
-/
import Derived.Test.YtkjpiokmccnhdaaDoorWalkDA
import Derived.Test.YtkjpiokmccnhdaaDoorDataH
namespace Go.Proofs.YtkjpiokmccnhdaaDoor
open Go.RowKit
set_option linter.unusedVariables false
set_option linter.unusedSimpArgs false
set_option maxRecDepth 4000

theorem info_i64 : (Tryd.prog.info? 2).map (fun i => (i.zero, i.size, i.bytes)) = some (some (.int .i64 0), 1, 8) := by kernel_rfl



theorem c_markHammerS (A : Option Addr) (c : Nat) (l : List (Int × Int)) (m : Nat) (base : Nat) (w : World) (h : Own2 .i8 .i8 44 w base (.slice A l.length c) l) (hn : l.length ≤ 1073741824) (hm : m ≤ 1073741824) :
    Calls Tryd.prog 25 #[.slice A l.length c, .int .i64 (m : Int)] w fun e w' => e = .returned (.int .i64 ((m + 2 * l.length : Nat) : Int)) ∧ w.grownBy w' (Value.slice A l.length c).ownBlock := by
  have hu := Tryd.underlying44
  go_enter Tryd.func25, Tryd.ntmps25
  go_wp2
  go_loopw [1, 5] (fun q i w' => ∃ (k : Nat) (l' : List (Int × Int)), i = .int .i64 (k : Int) ∧ q = .int .i64 ((m + 2 * k : Nat) : Int) ∧ k ≤ l.length ∧ l'.length = l.length ∧ Own2 .i8 .i8 44 w' base (.slice A l.length c) l' ∧ w.grownBy w' (Value.slice A l.length c).ownBlock) (fun _ i _ => l.length - (intOf i).toNat)
  case atStart => exact ⟨0, l, rfl, rfl, by omega, rfl, h, World.grownBy.refl _ _⟩
  case round =>
    obtain ⟨k, l', rfl, rfl, hk, hl', hown, hg⟩ := hrel
    by_cases hlt : k < l.length
    · have hlt2 : k < l'.length := by omega
      obtain ⟨g, rfl⟩ : ∃ g, A = some ⟨g, 0, none⟩ := hown.form (by omega)
      obtain ⟨y1, y2, y3, y4⟩ := hown.cells k hlt2
      have hw1 : IntKind.i64.wrap (((m + 2 * k : Nat) : Int) + 1) = ((m + 2 * k : Nat) : Int) + 1 := IntWalk.i64_in _ (by omega)
      have hw2 : IntKind.i64.wrap (((m + 2 * k : Nat) : Int) + 1 + 1) = ((m + 2 * k : Nat) : Int) + 1 + 1 := IntWalk.i64_in _ (by omega)
      have HL := Lib.hid hl'
      have HO := Lib.hid hown
      have HG := Lib.hid (show w.grownBy wr (some g) from hg)
      clear hown hg hl'
      go_wp2
      go_roundw
      case rel =>
        exact ⟨k + 1, _, by go_num, by congr 1, by omega, by rw [List.length_set]; exact HL.out, HO.out.store HL.out k (_, _), gset (g := g) (p := ⟨g, k * 2 + 1, none⟩) (gset (g := g) (p := ⟨g, k * 2, none⟩) HG.out (.inl rfl) _) (.inl rfl) _⟩
      case measure => simp [intOf]; omega
    · obtain rfl : k = l.length := by omega
      go_wp2
      go_ret
      exact ⟨rfl, hg⟩

theorem c_markFrame (s : Int) (A : Option Addr) (c : Nat) (l : List (Int × Int)) (m : Nat) (base : Nat) (w : World) (h : Own2 .i8 .i8 44 w base (.slice A l.length c) l) (hn : l.length ≤ 1073741824) (hm : m ≤ 1073741824) :
    Calls Tryd.prog 8 #[.agg #[.int .i16 s, .slice A l.length c], .int .i64 (m : Int)] w fun e w' => e = .returned (.int .i64 ((m + 2 * l.length : Nat) : Int)) ∧ w.grownBy w' (Value.slice A l.length c).ownBlock := by
  have hu2 := Tryd.underlying25
  go_enter Tryd.func8, Tryd.ntmps8
  go_wp2_with fail
  refine (c_markHammerS A c l m base _ (h.alloc _) hn hm).mono ?_
  rintro e w1 ⟨rfl, hg⟩
  go_wp2
  go_ret
  exact ⟨rfl, World.grownBy.trans (World.grownBy_alloc _ _ _) hg⟩

end Go.Proofs.YtkjpiokmccnhdaaDoor
