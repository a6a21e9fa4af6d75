/-
  Marks on the hammers of a frame, and whether they are held.
-/
import Derived.Test.YtkjpiokmccnhdaaDoorWalkDX
import Derived.Test.YtkjpiokmccnhdaaDoorDataM
namespace Go.Proofs.YtkjpiokmccnhdaaDoor
open Go.RowKit
set_option linter.unusedVariables false
set_option linter.unusedSimpArgs false
set_option maxRecDepth 4000

/-- What the marks write: numbers that count up, cut to the fields' width. -/
def markHN (m : Int) (i : Nat) : Int × Int := (IntKind.i8.wrap (m + 2 * i), IntKind.i8.wrap (m + 2 * i + 1))
def markHL (n : Nat) (m : Int) : List (Int × Int) := (List.range n).map (markHN m)
theorem markHL_len (n : Nat) (m : Int) : (markHL n m).length = n := by simp [markHL]
theorem markHL_get (n : Nat) (m : Int) (i : Nat) (h : i < (markHL n m).length) : (markHL n m)[i] = markHN m i := by simp [markHL]
def markHP (l : List (Int × Int)) (k : Nat) (m : Int) : List (Int × Int) := markHL k m ++ l.drop k
theorem markHP_len (l : List (Int × Int)) (k : Nat) (m : Int) (h : k ≤ l.length) : (markHP l k m).length = l.length := by simp [markHP, markHL_len]; omega
theorem markHP_zero (l : List (Int × Int)) (m : Int) : markHP l 0 m = l := by simp [markHP, markHL]
theorem markHP_end (l : List (Int × Int)) (m : Int) : markHP l l.length m = markHL l.length m := by simp [markHP]
theorem markHP_set (l : List (Int × Int)) (k : Nat) (m : Int) (h : k < l.length) : (markHP l k m).set k (markHN m k) = markHP l (k + 1) m := by
  refine List.ext_getElem (by simp [markHP_len _ _ _ (Nat.le_of_lt h), markHP_len _ _ _ h]) fun i h1 h2 => ?_
  simp only [List.length_set, markHP_len _ _ _ (Nat.le_of_lt h)] at h1
  rw [List.getElem_set]
  by_cases e : k = i
  · subst e; rw [if_pos rfl]; simp only [markHP]; rw [List.getElem_append_left (by simp [markHL_len]), markHL_get]
  · rw [if_neg e]
    simp only [markHP]
    by_cases hi : i < k
    · rw [List.getElem_append_left (by simp [markHL_len]; omega), List.getElem_append_left (by simp [markHL_len]; omega), markHL_get, markHL_get]
    · rw [List.getElem_append_right (by simp [markHL_len]; omega), List.getElem_append_right (by simp [markHL_len]; omega)]; simp only [markHL_len, List.getElem_drop]; congr 1; omega


theorem c_markHamS (A : Option Addr) (c : Nat) (l : List (Int × Int)) (m : Nat) (base : Nat) (w : World) (h : Own2 .i8 .i8 44 w base (.slice A l.length c) l) (hn : l.length ≤ 1073741824) (hm : m ≤ 1073741824) :
    Calls Tryd.prog 25 #[.slice A l.length c, .int .i64 m] w fun e w' => e = .returned (.int .i64 ((m + 2 * l.length : Nat) : Int)) ∧ Own2 .i8 .i8 44 w' base (.slice A l.length c) (markHL l.length m) ∧ w.grownBy w' (Value.slice A l.length c).ownBlock := by
  have hu := Tryd.underlying44
  go_enter Tryd.func25, Tryd.ntmps25
  go_wp2
  go_loopw [1, 5] (fun q i w' => ∃ k : Nat, i = .int .i64 k ∧ q = .int .i64 ((m + 2 * k : Nat) : Int) ∧ k ≤ l.length ∧ Own2 .i8 .i8 44 w' base (.slice A l.length c) (markHP l k m) ∧ w.grownBy w' (Value.slice A l.length c).ownBlock) (fun _ i _ => l.length - (intOf i).toNat)
  case atStart => exact ⟨0, rfl, rfl, by omega, by rw [markHP_zero]; exact h, World.grownBy.refl _ _⟩
  case round =>
    obtain ⟨k, rfl, rfl, hk, hown, hg⟩ := hrel
    by_cases hlt : k < l.length
    · have hlt2 : k < (markHP l k m).length := by rw [markHP_len _ _ _ hk]; exact hlt
      obtain ⟨g, rfl⟩ : ∃ g, A = some ⟨g, 0, none⟩ := hown.form (by omega)
      obtain ⟨y1, y2, y3, y4⟩ := hown.cells k hlt2
      have hw1 : IntKind.i64.wrap (((m + 2 * k : Nat) : Int) + 1) = ((m + 2 * k : Nat) : Int) + 1 := IntWalk.i64_in _ (by omega)
      have hw2 : IntKind.i64.wrap (((m + 2 * k : Nat) : Int) + 1 + 1) = ((m + 2 * k : Nat) : Int) + 1 + 1 := IntWalk.i64_in _ (by omega)
      go_wp2
      go_roundw
      case rel =>
        refine ⟨k + 1, by go_num, ?_, by omega, ?_, ?_⟩
        · congr 1
        · rw [← markHP_set l k m hlt]; exact hown.store (markHP_len _ _ _ hk) k (markHN m k)
        · have hg' : w.grownBy wr (some g) := hg
          exact gset (g := g) (p := ⟨g, k * 2 + 1, none⟩) (gset (g := g) (p := ⟨g, k * 2, none⟩) hg' (.inl rfl) _) (.inl rfl) _
      case measure => simp [intOf]; omega
    · obtain rfl : k = l.length := by omega
      go_wp2
      go_ret
      exact ⟨rfl, by rw [markHP_end] at hown; exact hown, hg⟩


theorem c_markFrameH (s : Int) (A : Option Addr) (c : Nat) (l : List (Int × Int)) (m : Nat) (base : Nat) (w : World) (h : Own2 .i8 .i8 44 w base (.slice A l.length c) l) (hn : l.length ≤ 1073741824) (hm : m ≤ 1073741824) :
    Calls Tryd.prog 8 #[.agg #[.int .i16 s, .slice A l.length c], .int .i64 (m : Int)] w fun e w' => e = .returned (.int .i64 ((m + 2 * l.length : Nat) : Int)) ∧ Own2 .i8 .i8 44 w' base (.slice A l.length c) (markHL l.length m) ∧ w.grownBy w' (Value.slice A l.length c).ownBlock := by
  have hu2 := Tryd.underlying25
  go_enter Tryd.func8, Tryd.ntmps8
  go_wp2_with fail
  refine (c_markHamS A c l m base _ (h.alloc _) hn hm).mono ?_
  rintro e w1 ⟨rfl, ho, hg⟩
  go_wp2
  go_ret
  exact ⟨rfl, ho, World.grownBy.trans (World.grownBy_alloc _ _ _) hg⟩
theorem c_heldHamS (A : Option Addr) (c : Nat) (n m : Nat) (w : World) (h : At2 .i8 .i8 w A (markHL n m)) (hn : n ≤ 1073741824) (hm : m ≤ 1073741824) :
    Calls Tryd.prog 26 #[.slice A n c, .int .i64 m] w fun e w' => e = .returned (.int .i64 ((m + 2 * n : Nat) : Int)) ∧ Below w.heap.size w w' := by
  have hu := Tryd.underlying44
  go_enter Tryd.func26, Tryd.ntmps26
  go_wp2
  go_loopw [1, 5] (fun q i w' => ∃ k : Nat, i = .int .i64 k ∧ q = .int .i64 ((m + 2 * k : Nat) : Int) ∧ k ≤ n ∧ Below w.heap.size w w') (fun _ i _ => n - (intOf i).toNat)
  case atStart => exact ⟨0, rfl, rfl, by omega, Below.refl _ _⟩
  case round =>
    obtain ⟨k, rfl, rfl, hk, hb⟩ := hrel
    by_cases hlt : k < n
    · have hlt2 : k < (markHL n m).length := by rw [markHL_len]; exact hlt
      obtain ⟨b, off, rfl, hbl, hc⟩ := (h.below hb).get (by omega)
      have x1 := (hc k hlt2).1
      have x2 := (hc k hlt2).2
      rw [markHL_get] at x1 x2
      unfold markHN at x1 x2
      clear hc
      have hw1 : IntKind.i64.wrap (((m + 2 * k : Nat) : Int) + 1) = ((m + 2 * k : Nat) : Int) + 1 := IntWalk.i64_in _ (by omega)
      have hw2 : IntKind.i64.wrap (((m + 2 * k : Nat) : Int) + 1 + 1) = ((m + 2 * k : Nat) : Int) + 1 + 1 := IntWalk.i64_in _ (by omega)
      go_wp2
      go_roundw
      case rel =>
        refine ⟨k + 1, by go_num, ?_, by omega, hb⟩
        congr 1
      case measure => simp [intOf]; omega
    · obtain rfl : k = n := by omega
      go_wp2
      go_ret
      exact ⟨rfl, hb⟩

theorem c_heldFrameH (s : Int) (A : Option Addr) (c n m : Nat) (w : World) (h : At2 .i8 .i8 w A (markHL n m)) (hn : n ≤ 1073741824) (hm : m ≤ 1073741824) :
    Calls Tryd.prog 9 #[.agg #[.int .i16 s, .slice A n c], .int .i64 (m : Int)] w fun e w' => e = .returned (.int .i64 ((m + 2 * n : Nat) : Int)) ∧ Below w.heap.size w w' := by
  have hu2 := Tryd.underlying25
  have B := balloc (Below.refl _ w) (.cells #[.int .i16 s, .slice A n c] 25)
  go_enter Tryd.func9, Tryd.ntmps9
  go_wp2_with fail
  refine (c_heldHamS A c n m _ (h.below B) hn hm).mono ?_
  rintro e w1 ⟨rfl, hb⟩
  have hneg : decide (((m + 2 * n : Nat) : Int) < 0) = false := decide_eq_false (by omega)
  go_wp2
  go_ret
  exact ⟨rfl, bstep B hb⟩

end Go.Proofs.YtkjpiokmccnhdaaDoor
